/- The law FnExactChainOk of the given program: it answers true at every input that its statement speaks of. Part 4 of 4: words, walks of the functions (printed by programs of this session), the plain law, the row. -/
import Derived.Test.YtlekeiokdmnboaaKFnExactChainOk1
import Derived.Test.YtlekeiokdmnboaaKFnExactChainOk0
import Derived.Test.YtlekeiokdmnboaaKFnExactChainOk2
import Derived.ChangeArms
import Derived.DataReads
import Derived.Test.YtlekeiokdmnboaaRows
import Derived.WalkKit
import Derived.ProofKit
import Derived.OpenShut
import Derived.ShutString
import Derived.ChangeOld
import Derived.Below
import Derived.SizedLaws
import Derived.Carry
section
namespace Go.Proofs.Ytlekeiokdmnboaa.Pa
open Go.RowKit Go.Proofs.YtlekeiokdmnboaaW.PrintWords Go.Proofs.YtlekeiokdmnboaaW.PrintLast Go.Proofs.YtlekeiokdmnboaaW.PrintMore Go.Proofs.Ytlekeiokdmnboaa.M
attribute [local go_sem] max2_int min2_int max_two min_two max_three min_three max_four min_four   -- for this text's walks alone
set_option linter.unusedVariables false
set_option maxHeartbeats 8000000
set_option maxRecDepth 100000
set_option linter.unusedSimpArgs false

/-! ### laws_FnExactSealOk: function 4 -/
def laws_FnExactSealOk.f (k : Nat) (a0_0 : Int) (a0_1 : ByteArray) (a0_2 : ByteArray) (l0_3 : List ByteArray) : Option (Bool) := (laws_szSeal.f k a0_0 a0_1 a0_2 l0_3 1048576).bind fun t334 => (if t334 < 0 then (some true) else ((laws_toSeal.f k a0_0 a0_1 a0_2 l0_3).bind fun bt335 => ((spec_SealOk.f k bt335.1 bt335.2.1 bt335.2.2.1 bt335.2.2.2).bind fun t341 => ((laws_toSeal.f k a0_0 a0_1 a0_2 l0_3).bind fun bt342 => ((impl_SealOk.f k bt342.1 bt342.2.1 bt342.2.2.1 bt342.2.2.2).bind fun t349 => (if (t349 != t341) = true then (some false) else ((laws_toSeal.f k a0_0 a0_1 a0_2 l0_3).bind fun bt350 => ((laws_eqSeal.f k bt342.1 bt342.2.1 bt342.2.2.1 bt342.2.2.2 bt350.1 bt350.2.1 bt350.2.2.1 bt350.2.2.2).bind fun t356 => (if t356 = true then (some true) else (some false))))))))))
theorem laws_FnExactSealOk.mono : ∀ a0 a1 a2 a3 k, LeO (laws_FnExactSealOk.f k a0 a1 a2 a3) (laws_FnExactSealOk.f (k + 1) a0 a1 a2 a3) := by
  intro a0 a1 a2 a3 k
  unfold laws_FnExactSealOk.f
  have m0 := @impl_SealOk.mono
  have m1 := @laws_eqSeal.mono
  have m2 := @laws_szSeal.mono
  have m3 := @laws_toSeal.mono
  have m4 := @spec_SealOk.mono
  exact me
theorem laws_FnExactSealOk.calls (k : Nat) (a0_0 : Int) (a0_1 : ByteArray) (a0_2 : ByteArray) (A0_3 : Option Addr) (c0_3 : Nat) (l0_3 : List ByteArray) (r : Bool) (w : World) (hr0_3 : Kd.C Kd.string w A0_3 l0_3.length l0_3) (hc0_3 : l0_3.length ≤ c0_3) (h : laws_FnExactSealOk.f k a0_0 a0_1 a0_2 l0_3 = some r) :
    Calls Try.prog 4 #[.agg #[.int .i64 a0_0, .string a0_1, .string a0_2, .slice A0_3 l0_3.length c0_3]] w fun e w' => e = .returned (.bool r) ∧ Below w.heap.size w w' := by
 have hu29 := Try.underlying29
 have hu32 := Try.underlying32
 have HR0_3 := mk0 hr0_3
 have HC0_3 := mk0 hc0_3
 clear hr0_3 hc0_3
 have HB := mk0 (Below.refl w.heap.size w)
 have H : ((laws_szSeal.f k a0_0 a0_1 a0_2 l0_3 1048576).bind fun t334 => (if t334 < 0 then (some true) else ((laws_toSeal.f k a0_0 a0_1 a0_2 l0_3).bind fun bt335 => ((spec_SealOk.f k bt335.1 bt335.2.1 bt335.2.2.1 bt335.2.2.2).bind fun t341 => ((laws_toSeal.f k a0_0 a0_1 a0_2 l0_3).bind fun bt342 => ((impl_SealOk.f k bt342.1 bt342.2.1 bt342.2.2.1 bt342.2.2.2).bind fun t349 => (if (t349 != t341) = true then (some false) else ((laws_toSeal.f k a0_0 a0_1 a0_2 l0_3).bind fun bt350 => ((laws_eqSeal.f k bt342.1 bt342.2.1 bt342.2.2.1 bt342.2.2.2 bt350.1 bt350.2.1 bt350.2.2.1 bt350.2.2.2).bind fun t356 => (if t356 = true then (some true) else (some false))))))))))) = some r := h
 clear h
 replace H := bd H; obtain ⟨t334, A2, H⟩ := H
 replace H := idd H; rcases H with ⟨c3b0, H⟩ | ⟨c3b0, H⟩
 · obtain rfl := Option.some.inj H
   go_enter Try.func4, Try.ntmps4
   go_wp2_with (first | ((with_reducible refine gD 1 rfl ?_); refine bx 1 #[.int .i64 a0_0, .string a0_1, .string a0_2, .slice A0_3 l0_3.length c0_3] 29 bw ?_; clear HB; intro gb333 w4 BK333 GW333 HB; obtain ⟨hcz5_0, hcz5_1, hcz5_2, hcz5_3, hfz5_0, hfz5_1, hfz5_2, hfz5_3⟩ := z4 BK333) | ((with_reducible refine gC 13 (some 9) rfl rfl ?_); refine gB (some 9) Try.func13 #[.agg #[.int .i64 a0_0, .string a0_1, .string a0_2, .slice A0_3 l0_3.length c0_3], .int .i64 1048576] (laws_szSeal.calls k a0_0 a0_1 a0_2 _ _ l0_3 1048576 t334 _ (cc (Kd.C_below HR0_3.out HB.out)) HC0_3.out A2.out) ?_; intro w6 hb; replace BK333 := mk0 (blk_below (kb BK333.out) hb); replace HB := mk0 (below_step (bg GW333) hb); clear hb))
   go_ret
   exact ⟨sw, (bg GW333)⟩
 · replace H := bd H; obtain ⟨⟨t335, t336, t337, t338⟩, A7, H⟩ := H
   (try dsimp only at H)
   replace H := bd H; obtain ⟨t341, A8, H⟩ := H
   replace H := bd H; obtain ⟨⟨t342, t343, t344, t345⟩, A9, H⟩ := H
   (try dsimp only at H)
   replace H := bd H; obtain ⟨t349, A10, H⟩ := H
   replace H := ip H; rcases H with ⟨c11, H⟩ | ⟨c11, H⟩
   · have c11b0 : (t349 != t341) = true := c11
     (try (have c11b1 : decide (t349 = t341) = false := by simpa using c11))
     (try (have c11b2 : (t349 == t341) = false := by simpa using c11))
     (try (have c11b3 : ¬ (t349 = t341) := by simpa using c11))
     clear c11
     obtain rfl := Option.some.inj H
     go_enter Try.func4, Try.ntmps4
     go_wp2_with (first | ((with_reducible refine gD 1 rfl ?_); refine bx 1 #[.int .i64 a0_0, .string a0_1, .string a0_2, .slice A0_3 l0_3.length c0_3] 29 bw ?_; clear HB; intro gb333 w12 BK333 GW333 HB; obtain ⟨hcz13_0, hcz13_1, hcz13_2, hcz13_3, hfz13_0, hfz13_1, hfz13_2, hfz13_3⟩ := z4 BK333) | ((with_reducible refine gC 13 (some 9) rfl rfl ?_); refine gB (some 9) Try.func13 #[.agg #[.int .i64 a0_0, .string a0_1, .string a0_2, .slice A0_3 l0_3.length c0_3], .int .i64 1048576] (laws_szSeal.calls k a0_0 a0_1 a0_2 _ _ l0_3 1048576 t334 _ (cc (Kd.C_below HR0_3.out HB.out)) HC0_3.out A2.out) ?_; intro w14 hb; replace BK333 := mk0 (blk_below (kb BK333.out) hb); replace HB := mk0 (below_step (bg GW333) hb); clear hb; obtain ⟨hcz15_0, hcz15_1, hcz15_2, hcz15_3, hfz15_0, hfz15_1, hfz15_2, hfz15_3⟩ := z4 BK333) | ((with_reducible refine gC 15 (some 13) rfl rfl ?_); refine gR (some 13) Try.func15 #[.agg #[.int .i64 a0_0, .string a0_1, .string a0_2, .slice A0_3 l0_3.length c0_3]] (laws_toSeal.calls k a0_0 a0_1 a0_2 _ _ l0_3 t335 t336 t337 t338 _ (cc (Kd.C_below HR0_3.out HB.out)) HC0_3.out A7.out) ?_; intro v339 w16 ho0 hb; have HO340 := mk0 (Kd.R_lower ho0 (below_size (bg GW333))); replace BK333 := mk0 (blk_below (kb BK333.out) hb); replace HB := mk0 (below_step (bg GW333) hb); clear hb ho0; obtain ⟨Ao17, co17, eo17⟩ := Kd.R_slice HO340.out; subst eo17) | ((with_reducible refine gC 14 (some 14) rfl rfl ?_); refine gB (some 14) Try.func14 #[.agg #[.int .i64 t335, .string t336, .string t337, .slice Ao17 t338.length co17]] (spec_SealOk.calls k t335 t336 t337 _ _ t338 t341 _ (cc ((Kd.R_reads' HO340.out).2.2)) ((Kd.R_reads' HO340.out).2.1) A8.out) ?_; intro w18 hb; replace HO340 := mk0 (Kd.R_below (rr HO340.out) hb); replace BK333 := mk0 (blk_below (kb BK333.out) hb); replace HB := mk0 (below_step (bg GW333) hb); clear hb; obtain ⟨hcz19_0, hcz19_1, hcz19_2, hcz19_3, hfz19_0, hfz19_1, hfz19_2, hfz19_3⟩ := z4 BK333) | ((with_reducible refine gC 15 (some 16) rfl rfl ?_); refine gR (some 16) Try.func15 #[.agg #[.int .i64 a0_0, .string a0_1, .string a0_2, .slice A0_3 l0_3.length c0_3]] (laws_toSeal.calls k a0_0 a0_1 a0_2 _ _ l0_3 t342 t343 t344 t345 _ (cc (Kd.C_below HR0_3.out HB.out)) HC0_3.out A9.out) ?_; intro v346 w20 ho0 hb; have HO347 := mk0 (Kd.R_lower (Kd.R_new' ho0 (Kd.R_lt (rr HO340.out))) (below_size (bg GW333))); replace HO340 := mk0 (Kd.R_elder' (rr HO340.out) (Kd.R_base ho0) hb); replace BK333 := mk0 (blk_below (kb BK333.out) hb); replace HB := mk0 (below_step (bg GW333) hb); clear hb ho0) | ((with_reducible refine gD 5 rfl ?_); refine bx0 5 #[.int .i64 0, .string (⟨#[]⟩ : ByteArray), .string (⟨#[]⟩ : ByteArray), .slice none 0 0] 32 ?_; intro gb348 hg w21 hbox hb; replace HO340 := mk0 (Kd.R_below (rr HO340.out) hb); replace HO347 := mk0 (Kd.R_below (rr HO347.out) hb); have BK348 := mk0 (hbox); have GW348 := mk0 ((by rw [hg]; exact (below_size (bg GW333)) : w.heap.size ≤ gb348)); have GE348 := mk0 ((by rw [hg]; exact (below_size (bg GW333)) : w.heap.size ≤ gb348)); replace HB := mk0 (below_step (bg GW333) hb); have NB333_348 := mk0 ((by rw [hg]; exact Nat.ne_of_lt (blk_lt (g := gb333) (o := .cells #[.int .i64 a0_0, .string a0_1, .string a0_2, .slice A0_3 l0_3.length c0_3] 29 (0, 0)) (kb BK333.out)) : gb333 ≠ gb348)); have NB348_333 := mk0 ((by rw [hg]; exact Nat.ne_of_gt (blk_lt (g := gb333) (o := .cells #[.int .i64 a0_0, .string a0_1, .string a0_2, .slice A0_3 l0_3.length c0_3] 29 (0, 0)) (kb BK333.out)) : gb348 ≠ gb333)); replace BK333 := mk0 (blk_below (kb BK333.out) hb); clear hb hbox hg; have hnb22 := NB348_333.out; have hnc22 := NB333_348.out; obtain ⟨hcz23_0, hcz23_1, hcz23_2, hcz23_3, hfz23_0, hfz23_1, hfz23_2, hfz23_3⟩ := z4 BK348; obtain ⟨Ao24, co24, eo24⟩ := Kd.R_slice HO347.out; subst eo24) | ((with_reducible refine gC 16 (some 18) rfl rfl ?_); refine gB (some 18) Try.func16 #[.agg #[.int .i64 t342, .string t343, .string t344, .slice Ao24 t345.length co24]] (impl_SealOk.calls k t342 t343 t344 _ _ t345 t349 _ ?side1 ((Kd.R_reads' HO347.out).2.1) A10.out) ?_; (case side1 => refine (Kd.R_reads' (e := 9) (base := w.heap.size) (ok := fun k_ => (True ∧ some k_ ≠ (.slice Ao17 t338.length co17 : Value).ownBlock)) (n := t345.length) (c := co24) ?_).2.2; exact (by (with_reducible repeat (first | apply Kd.R_alloc | apply Kd.R_drewN | apply Kd.R_drew)); exact (Kd.R_mono (Kd.R_far (p := ⟨gb348, 3, none⟩) (Kd.R_far (p := ⟨gb348, 2, none⟩) (Kd.R_far (p := ⟨gb348, 1, none⟩) (Kd.R_far (p := ⟨gb348, 0, none⟩) (Kd.R_types HO347.out BK348.out (by decide)) (fun _ hk => hk.2) (.int .i64 t342)) (fun _ hk => hk.2) (.string t343)) (fun _ hk => hk.2) (.string t344)) (fun _ hk => hk.2) (.slice Ao24 t345.length co24)) (fun _ h_ => h_.1)))); intro w25 hb; replace HO340 := mk0 (Kd.R_below (by (with_reducible repeat (first | apply Kd.R_alloc | apply Kd.R_drewN | apply Kd.R_drew)); exact (Kd.R_mono (Kd.R_far (p := ⟨gb348, 3, none⟩) (Kd.R_far (p := ⟨gb348, 2, none⟩) (Kd.R_far (p := ⟨gb348, 1, none⟩) (Kd.R_far (p := ⟨gb348, 0, none⟩) (Kd.R_types HO340.out BK348.out (by decide)) (fun _ hk => hk.2) (.int .i64 t342)) (fun _ hk => hk.2) (.string t343)) (fun _ hk => hk.2) (.string t344)) (fun _ hk => hk.2) (.slice Ao24 t345.length co24)) (fun _ h_ => h_.1))) hb); replace HO347 := mk0 (Kd.R_below (by (with_reducible repeat (first | apply Kd.R_alloc | apply Kd.R_drewN | apply Kd.R_drew)); exact (Kd.R_mono (Kd.R_far (p := ⟨gb348, 3, none⟩) (Kd.R_far (p := ⟨gb348, 2, none⟩) (Kd.R_far (p := ⟨gb348, 1, none⟩) (Kd.R_far (p := ⟨gb348, 0, none⟩) (Kd.R_types HO347.out BK348.out (by decide)) (fun _ hk => hk.2) (.int .i64 t342)) (fun _ hk => hk.2) (.string t343)) (fun _ hk => hk.2) (.string t344)) (fun _ hk => hk.2) (.slice Ao24 t345.length co24)) (fun _ h_ => h_.1))) hb); replace BK333 := mk0 (blk_below (g := gb333) (o := .cells #[.int .i64 a0_0, .string a0_1, .string a0_2, .slice A0_3 l0_3.length c0_3] 29 (0, 0)) (by (with_reducible repeat (first | refine blk_drewN ?_ _ | refine blk_drew ?_ | refine blk_alloc ?_ _)); refine blk_far ?_ NB333_348.out _; (with_reducible repeat (first | refine blk_drewN ?_ _ | refine blk_drew ?_ | refine blk_alloc ?_ _)); refine blk_far ?_ NB333_348.out _; (with_reducible repeat (first | refine blk_drewN ?_ _ | refine blk_drew ?_ | refine blk_alloc ?_ _)); refine blk_far ?_ NB333_348.out _; (with_reducible repeat (first | refine blk_drewN ?_ _ | refine blk_drew ?_ | refine blk_alloc ?_ _)); refine blk_far ?_ NB333_348.out _; (with_reducible repeat (first | refine blk_drewN ?_ _ | refine blk_drew ?_ | refine blk_alloc ?_ _)); exact BK333.out) hb); replace BK348 := mk0 (blk_below (g := gb348) (o := .cells #[.int .i64 t342, .string t343, .string t344, .slice Ao24 t345.length co24] 32 (0, 0)) (by (with_reducible repeat (first | refine blk_drewN ?_ _ | refine blk_drew ?_ | refine blk_alloc ?_ _)); refine blk_put (cs := #[.int .i64 t342, .string t343, .string t344, .slice none 0 0]) ?_ 3 _ rfl; (with_reducible repeat (first | refine blk_drewN ?_ _ | refine blk_drew ?_ | refine blk_alloc ?_ _)); refine blk_put (cs := #[.int .i64 t342, .string t343, .string (⟨#[]⟩ : ByteArray), .slice none 0 0]) ?_ 2 _ rfl; (with_reducible repeat (first | refine blk_drewN ?_ _ | refine blk_drew ?_ | refine blk_alloc ?_ _)); refine blk_put (cs := #[.int .i64 t342, .string (⟨#[]⟩ : ByteArray), .string (⟨#[]⟩ : ByteArray), .slice none 0 0]) ?_ 1 _ rfl; (with_reducible repeat (first | refine blk_drewN ?_ _ | refine blk_drew ?_ | refine blk_alloc ?_ _)); refine blk_put (cs := #[.int .i64 0, .string (⟨#[]⟩ : ByteArray), .string (⟨#[]⟩ : ByteArray), .slice none 0 0]) ?_ 0 _ rfl; (with_reducible repeat (first | refine blk_drewN ?_ _ | refine blk_drew ?_ | refine blk_alloc ?_ _)); exact BK348.out) hb); replace HB := mk0 (below_step ((bg2 GW333 GE348)) hb); clear hb))
     go_ret
     exact ⟨sw, (bg2 GW333 GE348)⟩
   · have c11b0 : (t349 != t341) = false := by simpa using c11
     (try (have c11b1 : decide (t349 = t341) = true := by simpa using c11))
     (try (have c11b2 : (t349 == t341) = true := by simpa using c11))
     clear c11
     replace H := bd H; obtain ⟨⟨t350, t351, t352, t353⟩, A26, H⟩ := H
     (try dsimp only at H)
     replace H := bd H; obtain ⟨t356, A27, H⟩ := H
     rcases ib t356 with rfl | rfl
     · replace H := jt H
       obtain rfl := Option.some.inj H
       go_enter Try.func4, Try.ntmps4
       try go_wp2_with (first | ((with_reducible refine gD 1 rfl ?_); refine bx 1 #[.int .i64 a0_0, .string a0_1, .string a0_2, .slice A0_3 l0_3.length c0_3] 29 bw ?_; clear HB; intro gb333 w29 BK333 GW333 HB; obtain ⟨hcz30_0, hcz30_1, hcz30_2, hcz30_3, hfz30_0, hfz30_1, hfz30_2, hfz30_3⟩ := z4 BK333) | ((with_reducible refine gC 13 (some 9) rfl rfl ?_); refine gB (some 9) Try.func13 #[.agg #[.int .i64 a0_0, .string a0_1, .string a0_2, .slice A0_3 l0_3.length c0_3], .int .i64 1048576] (laws_szSeal.calls k a0_0 a0_1 a0_2 _ _ l0_3 1048576 t334 _ (cc (Kd.C_below HR0_3.out HB.out)) HC0_3.out A2.out) ?_; intro w31 hb; replace BK333 := mk0 (blk_below (kb BK333.out) hb); replace HB := mk0 (below_step (bg GW333) hb); clear hb; obtain ⟨hcz32_0, hcz32_1, hcz32_2, hcz32_3, hfz32_0, hfz32_1, hfz32_2, hfz32_3⟩ := z4 BK333) | ((with_reducible refine gC 15 (some 13) rfl rfl ?_); refine gR (some 13) Try.func15 #[.agg #[.int .i64 a0_0, .string a0_1, .string a0_2, .slice A0_3 l0_3.length c0_3]] (laws_toSeal.calls k a0_0 a0_1 a0_2 _ _ l0_3 t335 t336 t337 t338 _ (cc (Kd.C_below HR0_3.out HB.out)) HC0_3.out A7.out) ?_; intro v339 w33 ho0 hb; have HO340 := mk0 (Kd.R_lower ho0 (below_size (bg GW333))); replace BK333 := mk0 (blk_below (kb BK333.out) hb); replace HB := mk0 (below_step (bg GW333) hb); clear hb ho0; obtain ⟨Ao34, co34, eo34⟩ := Kd.R_slice HO340.out; subst eo34) | ((with_reducible refine gC 14 (some 14) rfl rfl ?_); refine gB (some 14) Try.func14 #[.agg #[.int .i64 t335, .string t336, .string t337, .slice Ao34 t338.length co34]] (spec_SealOk.calls k t335 t336 t337 _ _ t338 t341 _ (cc ((Kd.R_reads' HO340.out).2.2)) ((Kd.R_reads' HO340.out).2.1) A8.out) ?_; intro w35 hb; replace HO340 := mk0 (Kd.R_below (rr HO340.out) hb); replace BK333 := mk0 (blk_below (kb BK333.out) hb); replace HB := mk0 (below_step (bg GW333) hb); clear hb; obtain ⟨hcz36_0, hcz36_1, hcz36_2, hcz36_3, hfz36_0, hfz36_1, hfz36_2, hfz36_3⟩ := z4 BK333) | ((with_reducible refine gC 15 (some 16) rfl rfl ?_); refine gR (some 16) Try.func15 #[.agg #[.int .i64 a0_0, .string a0_1, .string a0_2, .slice A0_3 l0_3.length c0_3]] (laws_toSeal.calls k a0_0 a0_1 a0_2 _ _ l0_3 t342 t343 t344 t345 _ (cc (Kd.C_below HR0_3.out HB.out)) HC0_3.out A9.out) ?_; intro v346 w37 ho0 hb; have HO347 := mk0 (Kd.R_lower (Kd.R_new' ho0 (Kd.R_lt (rr HO340.out))) (below_size (bg GW333))); replace HO340 := mk0 (Kd.R_elder' (rr HO340.out) (Kd.R_base ho0) hb); replace BK333 := mk0 (blk_below (kb BK333.out) hb); replace HB := mk0 (below_step (bg GW333) hb); clear hb ho0) | ((with_reducible refine gD 5 rfl ?_); refine bx0 5 #[.int .i64 0, .string (⟨#[]⟩ : ByteArray), .string (⟨#[]⟩ : ByteArray), .slice none 0 0] 32 ?_; intro gb348 hg w38 hbox hb; replace HO340 := mk0 (Kd.R_below (rr HO340.out) hb); replace HO347 := mk0 (Kd.R_below (rr HO347.out) hb); have BK348 := mk0 (hbox); have GW348 := mk0 ((by rw [hg]; exact (below_size (bg GW333)) : w.heap.size ≤ gb348)); have GE348 := mk0 ((by rw [hg]; exact (below_size (bg GW333)) : w.heap.size ≤ gb348)); replace HB := mk0 (below_step (bg GW333) hb); have NB333_348 := mk0 ((by rw [hg]; exact Nat.ne_of_lt (blk_lt (g := gb333) (o := .cells #[.int .i64 a0_0, .string a0_1, .string a0_2, .slice A0_3 l0_3.length c0_3] 29 (0, 0)) (kb BK333.out)) : gb333 ≠ gb348)); have NB348_333 := mk0 ((by rw [hg]; exact Nat.ne_of_gt (blk_lt (g := gb333) (o := .cells #[.int .i64 a0_0, .string a0_1, .string a0_2, .slice A0_3 l0_3.length c0_3] 29 (0, 0)) (kb BK333.out)) : gb348 ≠ gb333)); replace BK333 := mk0 (blk_below (kb BK333.out) hb); clear hb hbox hg; have hnb39 := NB348_333.out; have hnc39 := NB333_348.out; obtain ⟨hcz40_0, hcz40_1, hcz40_2, hcz40_3, hfz40_0, hfz40_1, hfz40_2, hfz40_3⟩ := z4 BK348; obtain ⟨Ao41, co41, eo41⟩ := Kd.R_slice HO347.out; subst eo41) | ((with_reducible refine gC 16 (some 18) rfl rfl ?_); refine gB (some 18) Try.func16 #[.agg #[.int .i64 t342, .string t343, .string t344, .slice Ao41 t345.length co41]] (impl_SealOk.calls k t342 t343 t344 _ _ t345 t349 _ ?side1 ((Kd.R_reads' HO347.out).2.1) A10.out) ?_; (case side1 => refine (Kd.R_reads' (e := 9) (base := w.heap.size) (ok := fun k_ => (True ∧ some k_ ≠ (.slice Ao34 t338.length co34 : Value).ownBlock)) (n := t345.length) (c := co41) ?_).2.2; exact (by (with_reducible repeat (first | apply Kd.R_alloc | apply Kd.R_drewN | apply Kd.R_drew)); exact (Kd.R_mono (Kd.R_far (p := ⟨gb348, 3, none⟩) (Kd.R_far (p := ⟨gb348, 2, none⟩) (Kd.R_far (p := ⟨gb348, 1, none⟩) (Kd.R_far (p := ⟨gb348, 0, none⟩) (Kd.R_types HO347.out BK348.out (by decide)) (fun _ hk => hk.2) (.int .i64 t342)) (fun _ hk => hk.2) (.string t343)) (fun _ hk => hk.2) (.string t344)) (fun _ hk => hk.2) (.slice Ao41 t345.length co41)) (fun _ h_ => h_.1)))); intro w42 hb; replace HO340 := mk0 (Kd.R_below (by (with_reducible repeat (first | apply Kd.R_alloc | apply Kd.R_drewN | apply Kd.R_drew)); exact (Kd.R_mono (Kd.R_far (p := ⟨gb348, 3, none⟩) (Kd.R_far (p := ⟨gb348, 2, none⟩) (Kd.R_far (p := ⟨gb348, 1, none⟩) (Kd.R_far (p := ⟨gb348, 0, none⟩) (Kd.R_types HO340.out BK348.out (by decide)) (fun _ hk => hk.2) (.int .i64 t342)) (fun _ hk => hk.2) (.string t343)) (fun _ hk => hk.2) (.string t344)) (fun _ hk => hk.2) (.slice Ao41 t345.length co41)) (fun _ h_ => h_.1))) hb); replace HO347 := mk0 (Kd.R_below (by (with_reducible repeat (first | apply Kd.R_alloc | apply Kd.R_drewN | apply Kd.R_drew)); exact (Kd.R_mono (Kd.R_far (p := ⟨gb348, 3, none⟩) (Kd.R_far (p := ⟨gb348, 2, none⟩) (Kd.R_far (p := ⟨gb348, 1, none⟩) (Kd.R_far (p := ⟨gb348, 0, none⟩) (Kd.R_types HO347.out BK348.out (by decide)) (fun _ hk => hk.2) (.int .i64 t342)) (fun _ hk => hk.2) (.string t343)) (fun _ hk => hk.2) (.string t344)) (fun _ hk => hk.2) (.slice Ao41 t345.length co41)) (fun _ h_ => h_.1))) hb); replace BK333 := mk0 (blk_below (g := gb333) (o := .cells #[.int .i64 a0_0, .string a0_1, .string a0_2, .slice A0_3 l0_3.length c0_3] 29 (0, 0)) (by (with_reducible repeat (first | refine blk_drewN ?_ _ | refine blk_drew ?_ | refine blk_alloc ?_ _)); refine blk_far ?_ NB333_348.out _; (with_reducible repeat (first | refine blk_drewN ?_ _ | refine blk_drew ?_ | refine blk_alloc ?_ _)); refine blk_far ?_ NB333_348.out _; (with_reducible repeat (first | refine blk_drewN ?_ _ | refine blk_drew ?_ | refine blk_alloc ?_ _)); refine blk_far ?_ NB333_348.out _; (with_reducible repeat (first | refine blk_drewN ?_ _ | refine blk_drew ?_ | refine blk_alloc ?_ _)); refine blk_far ?_ NB333_348.out _; (with_reducible repeat (first | refine blk_drewN ?_ _ | refine blk_drew ?_ | refine blk_alloc ?_ _)); exact BK333.out) hb); replace BK348 := mk0 (blk_below (g := gb348) (o := .cells #[.int .i64 t342, .string t343, .string t344, .slice Ao41 t345.length co41] 32 (0, 0)) (by (with_reducible repeat (first | refine blk_drewN ?_ _ | refine blk_drew ?_ | refine blk_alloc ?_ _)); refine blk_put (cs := #[.int .i64 t342, .string t343, .string t344, .slice none 0 0]) ?_ 3 _ rfl; (with_reducible repeat (first | refine blk_drewN ?_ _ | refine blk_drew ?_ | refine blk_alloc ?_ _)); refine blk_put (cs := #[.int .i64 t342, .string t343, .string (⟨#[]⟩ : ByteArray), .slice none 0 0]) ?_ 2 _ rfl; (with_reducible repeat (first | refine blk_drewN ?_ _ | refine blk_drew ?_ | refine blk_alloc ?_ _)); refine blk_put (cs := #[.int .i64 t342, .string (⟨#[]⟩ : ByteArray), .string (⟨#[]⟩ : ByteArray), .slice none 0 0]) ?_ 1 _ rfl; (with_reducible repeat (first | refine blk_drewN ?_ _ | refine blk_drew ?_ | refine blk_alloc ?_ _)); refine blk_put (cs := #[.int .i64 0, .string (⟨#[]⟩ : ByteArray), .string (⟨#[]⟩ : ByteArray), .slice none 0 0]) ?_ 0 _ rfl; (with_reducible repeat (first | refine blk_drewN ?_ _ | refine blk_drew ?_ | refine blk_alloc ?_ _)); exact BK348.out) hb); replace HB := mk0 (below_step ((bg2 GW333 GE348)) hb); clear hb))
       replace HO340 := mk0 (Kd.R_drew HO340.out)
       replace HO347 := mk0 (Kd.R_drew HO347.out)
       replace BK333 := mk0 (blk_drew BK333.out)
       replace BK348 := mk0 (blk_drew BK348.out)
       replace HB := mk0 (below_drew1 HB.out)
       refine st0 5 (b4 BK348 (b4 BK333 n_)) (fun hHeld => ?_)
       generalize w42.drew = w43 at HO340 HO347 BK333 BK348 HB hHeld ⊢
       refine tk0 0 (some 22) hHeld ?_
       refine tk0 1 (some 23) hHeld ?_
       refine on0 2 (some 24) (fun K hK => ?_)
       refine oR Try.func15 #[.agg #[.int .i64 a0_0, .string a0_1, .string a0_2, .slice A0_3 l0_3.length c0_3]] (laws_toSeal.calls k a0_0 a0_1 a0_2 _ _ l0_3 t350 t351 t352 t353 _ (cc (Kd.C_below HR0_3.out HB.out)) HC0_3.out A26.out) ?_
       intro v354 w44 ho0 hb
       have HO355 := mk0 (Kd.R_lower (Kd.R_new' (Kd.R_new' ho0 (Kd.R_lt (rr HO340.out))) (Kd.R_lt (rr HO347.out))) (below_size ((bg2 GW333 GE348))))
       replace HO340 := mk0 (Kd.R_elder' (rr HO340.out) (Kd.R_base ho0) hb)
       replace HO347 := mk0 (Kd.R_elder' (rr HO347.out) (Kd.R_base ho0) hb)
       replace BK333 := mk0 (blk_below (kb BK333.out) hb)
       replace BK348 := mk0 (blk_below (kb BK348.out) hb)
       replace HB := mk0 (below_step ((bg2 GW333 GE348)) hb)
       (try clear hb); (try clear hk); (try clear ho0)
       obtain ⟨Ao45, co45, eo45⟩ := Kd.R_slice HO355.out
       (first | subst eo45 | (injection eo45 with f1_ f2_ f3_; have f4_ := f1_.symm; have f5_ := f3_.symm; clear f1_ f2_ f3_; subst f4_; subst f5_))
       refine hK.out _ _ ah (fun hHeld => ?_)
       clear hK K
       refine nr ?_
       refine on0 3 (some 25) (fun K hK => ?_)
       refine oB Try.func17 #[.agg #[.int .i64 t342, .string t343, .string t344, .slice Ao41 t345.length co41], .agg #[.int .i64 t350, .string t351, .string t352, .slice Ao45 t353.length co45]] (laws_eqSeal.calls k t342 t343 t344 _ _ t345 t350 t351 t352 _ _ t353 true _ (cc ((Kd.R_reads' HO347.out).2.2)) ((Kd.R_reads' HO347.out).2.1) (cc ((Kd.R_reads' HO355.out).2.2)) ((Kd.R_reads' HO355.out).2.1) A27.out) ?_
       intro w46 hb
       replace HO340 := mk0 (Kd.R_below (rr HO340.out) hb)
       replace HO347 := mk0 (Kd.R_below (rr HO347.out) hb)
       replace HO355 := mk0 (Kd.R_below (rr HO355.out) hb)
       replace BK333 := mk0 (blk_below (kb BK333.out) hb)
       replace BK348 := mk0 (blk_below (kb BK348.out) hb)
       replace HB := mk0 (below_step ((bg2 GW333 GE348)) hb)
       (try clear hb); (try clear hk)
       refine hK.out _ _ ah (fun hHeld => ?_)
       clear hK K
       refine nr ?_
       refine pu0 4 (some 26) ?_
       refine done_ (by kernel_rfl) ?_
       try go_wp2
       go_ret
       exact ⟨sw, (bg2 GW333 GE348)⟩
     · replace H := jf H
       obtain rfl := Option.some.inj H
       go_enter Try.func4, Try.ntmps4
       try go_wp2_with (first | ((with_reducible refine gD 1 rfl ?_); refine bx 1 #[.int .i64 a0_0, .string a0_1, .string a0_2, .slice A0_3 l0_3.length c0_3] 29 bw ?_; clear HB; intro gb333 w47 BK333 GW333 HB; obtain ⟨hcz48_0, hcz48_1, hcz48_2, hcz48_3, hfz48_0, hfz48_1, hfz48_2, hfz48_3⟩ := z4 BK333) | ((with_reducible refine gC 13 (some 9) rfl rfl ?_); refine gB (some 9) Try.func13 #[.agg #[.int .i64 a0_0, .string a0_1, .string a0_2, .slice A0_3 l0_3.length c0_3], .int .i64 1048576] (laws_szSeal.calls k a0_0 a0_1 a0_2 _ _ l0_3 1048576 t334 _ (cc (Kd.C_below HR0_3.out HB.out)) HC0_3.out A2.out) ?_; intro w49 hb; replace BK333 := mk0 (blk_below (kb BK333.out) hb); replace HB := mk0 (below_step (bg GW333) hb); clear hb; obtain ⟨hcz50_0, hcz50_1, hcz50_2, hcz50_3, hfz50_0, hfz50_1, hfz50_2, hfz50_3⟩ := z4 BK333) | ((with_reducible refine gC 15 (some 13) rfl rfl ?_); refine gR (some 13) Try.func15 #[.agg #[.int .i64 a0_0, .string a0_1, .string a0_2, .slice A0_3 l0_3.length c0_3]] (laws_toSeal.calls k a0_0 a0_1 a0_2 _ _ l0_3 t335 t336 t337 t338 _ (cc (Kd.C_below HR0_3.out HB.out)) HC0_3.out A7.out) ?_; intro v339 w51 ho0 hb; have HO340 := mk0 (Kd.R_lower ho0 (below_size (bg GW333))); replace BK333 := mk0 (blk_below (kb BK333.out) hb); replace HB := mk0 (below_step (bg GW333) hb); clear hb ho0; obtain ⟨Ao52, co52, eo52⟩ := Kd.R_slice HO340.out; subst eo52) | ((with_reducible refine gC 14 (some 14) rfl rfl ?_); refine gB (some 14) Try.func14 #[.agg #[.int .i64 t335, .string t336, .string t337, .slice Ao52 t338.length co52]] (spec_SealOk.calls k t335 t336 t337 _ _ t338 t341 _ (cc ((Kd.R_reads' HO340.out).2.2)) ((Kd.R_reads' HO340.out).2.1) A8.out) ?_; intro w53 hb; replace HO340 := mk0 (Kd.R_below (rr HO340.out) hb); replace BK333 := mk0 (blk_below (kb BK333.out) hb); replace HB := mk0 (below_step (bg GW333) hb); clear hb; obtain ⟨hcz54_0, hcz54_1, hcz54_2, hcz54_3, hfz54_0, hfz54_1, hfz54_2, hfz54_3⟩ := z4 BK333) | ((with_reducible refine gC 15 (some 16) rfl rfl ?_); refine gR (some 16) Try.func15 #[.agg #[.int .i64 a0_0, .string a0_1, .string a0_2, .slice A0_3 l0_3.length c0_3]] (laws_toSeal.calls k a0_0 a0_1 a0_2 _ _ l0_3 t342 t343 t344 t345 _ (cc (Kd.C_below HR0_3.out HB.out)) HC0_3.out A9.out) ?_; intro v346 w55 ho0 hb; have HO347 := mk0 (Kd.R_lower (Kd.R_new' ho0 (Kd.R_lt (rr HO340.out))) (below_size (bg GW333))); replace HO340 := mk0 (Kd.R_elder' (rr HO340.out) (Kd.R_base ho0) hb); replace BK333 := mk0 (blk_below (kb BK333.out) hb); replace HB := mk0 (below_step (bg GW333) hb); clear hb ho0) | ((with_reducible refine gD 5 rfl ?_); refine bx0 5 #[.int .i64 0, .string (⟨#[]⟩ : ByteArray), .string (⟨#[]⟩ : ByteArray), .slice none 0 0] 32 ?_; intro gb348 hg w56 hbox hb; replace HO340 := mk0 (Kd.R_below (rr HO340.out) hb); replace HO347 := mk0 (Kd.R_below (rr HO347.out) hb); have BK348 := mk0 (hbox); have GW348 := mk0 ((by rw [hg]; exact (below_size (bg GW333)) : w.heap.size ≤ gb348)); have GE348 := mk0 ((by rw [hg]; exact (below_size (bg GW333)) : w.heap.size ≤ gb348)); replace HB := mk0 (below_step (bg GW333) hb); have NB333_348 := mk0 ((by rw [hg]; exact Nat.ne_of_lt (blk_lt (g := gb333) (o := .cells #[.int .i64 a0_0, .string a0_1, .string a0_2, .slice A0_3 l0_3.length c0_3] 29 (0, 0)) (kb BK333.out)) : gb333 ≠ gb348)); have NB348_333 := mk0 ((by rw [hg]; exact Nat.ne_of_gt (blk_lt (g := gb333) (o := .cells #[.int .i64 a0_0, .string a0_1, .string a0_2, .slice A0_3 l0_3.length c0_3] 29 (0, 0)) (kb BK333.out)) : gb348 ≠ gb333)); replace BK333 := mk0 (blk_below (kb BK333.out) hb); clear hb hbox hg; have hnb57 := NB348_333.out; have hnc57 := NB333_348.out; obtain ⟨hcz58_0, hcz58_1, hcz58_2, hcz58_3, hfz58_0, hfz58_1, hfz58_2, hfz58_3⟩ := z4 BK348; obtain ⟨Ao59, co59, eo59⟩ := Kd.R_slice HO347.out; subst eo59) | ((with_reducible refine gC 16 (some 18) rfl rfl ?_); refine gB (some 18) Try.func16 #[.agg #[.int .i64 t342, .string t343, .string t344, .slice Ao59 t345.length co59]] (impl_SealOk.calls k t342 t343 t344 _ _ t345 t349 _ ?side1 ((Kd.R_reads' HO347.out).2.1) A10.out) ?_; (case side1 => refine (Kd.R_reads' (e := 9) (base := w.heap.size) (ok := fun k_ => (True ∧ some k_ ≠ (.slice Ao52 t338.length co52 : Value).ownBlock)) (n := t345.length) (c := co59) ?_).2.2; exact (by (with_reducible repeat (first | apply Kd.R_alloc | apply Kd.R_drewN | apply Kd.R_drew)); exact (Kd.R_mono (Kd.R_far (p := ⟨gb348, 3, none⟩) (Kd.R_far (p := ⟨gb348, 2, none⟩) (Kd.R_far (p := ⟨gb348, 1, none⟩) (Kd.R_far (p := ⟨gb348, 0, none⟩) (Kd.R_types HO347.out BK348.out (by decide)) (fun _ hk => hk.2) (.int .i64 t342)) (fun _ hk => hk.2) (.string t343)) (fun _ hk => hk.2) (.string t344)) (fun _ hk => hk.2) (.slice Ao59 t345.length co59)) (fun _ h_ => h_.1)))); intro w60 hb; replace HO340 := mk0 (Kd.R_below (by (with_reducible repeat (first | apply Kd.R_alloc | apply Kd.R_drewN | apply Kd.R_drew)); exact (Kd.R_mono (Kd.R_far (p := ⟨gb348, 3, none⟩) (Kd.R_far (p := ⟨gb348, 2, none⟩) (Kd.R_far (p := ⟨gb348, 1, none⟩) (Kd.R_far (p := ⟨gb348, 0, none⟩) (Kd.R_types HO340.out BK348.out (by decide)) (fun _ hk => hk.2) (.int .i64 t342)) (fun _ hk => hk.2) (.string t343)) (fun _ hk => hk.2) (.string t344)) (fun _ hk => hk.2) (.slice Ao59 t345.length co59)) (fun _ h_ => h_.1))) hb); replace HO347 := mk0 (Kd.R_below (by (with_reducible repeat (first | apply Kd.R_alloc | apply Kd.R_drewN | apply Kd.R_drew)); exact (Kd.R_mono (Kd.R_far (p := ⟨gb348, 3, none⟩) (Kd.R_far (p := ⟨gb348, 2, none⟩) (Kd.R_far (p := ⟨gb348, 1, none⟩) (Kd.R_far (p := ⟨gb348, 0, none⟩) (Kd.R_types HO347.out BK348.out (by decide)) (fun _ hk => hk.2) (.int .i64 t342)) (fun _ hk => hk.2) (.string t343)) (fun _ hk => hk.2) (.string t344)) (fun _ hk => hk.2) (.slice Ao59 t345.length co59)) (fun _ h_ => h_.1))) hb); replace BK333 := mk0 (blk_below (g := gb333) (o := .cells #[.int .i64 a0_0, .string a0_1, .string a0_2, .slice A0_3 l0_3.length c0_3] 29 (0, 0)) (by (with_reducible repeat (first | refine blk_drewN ?_ _ | refine blk_drew ?_ | refine blk_alloc ?_ _)); refine blk_far ?_ NB333_348.out _; (with_reducible repeat (first | refine blk_drewN ?_ _ | refine blk_drew ?_ | refine blk_alloc ?_ _)); refine blk_far ?_ NB333_348.out _; (with_reducible repeat (first | refine blk_drewN ?_ _ | refine blk_drew ?_ | refine blk_alloc ?_ _)); refine blk_far ?_ NB333_348.out _; (with_reducible repeat (first | refine blk_drewN ?_ _ | refine blk_drew ?_ | refine blk_alloc ?_ _)); refine blk_far ?_ NB333_348.out _; (with_reducible repeat (first | refine blk_drewN ?_ _ | refine blk_drew ?_ | refine blk_alloc ?_ _)); exact BK333.out) hb); replace BK348 := mk0 (blk_below (g := gb348) (o := .cells #[.int .i64 t342, .string t343, .string t344, .slice Ao59 t345.length co59] 32 (0, 0)) (by (with_reducible repeat (first | refine blk_drewN ?_ _ | refine blk_drew ?_ | refine blk_alloc ?_ _)); refine blk_put (cs := #[.int .i64 t342, .string t343, .string t344, .slice none 0 0]) ?_ 3 _ rfl; (with_reducible repeat (first | refine blk_drewN ?_ _ | refine blk_drew ?_ | refine blk_alloc ?_ _)); refine blk_put (cs := #[.int .i64 t342, .string t343, .string (⟨#[]⟩ : ByteArray), .slice none 0 0]) ?_ 2 _ rfl; (with_reducible repeat (first | refine blk_drewN ?_ _ | refine blk_drew ?_ | refine blk_alloc ?_ _)); refine blk_put (cs := #[.int .i64 t342, .string (⟨#[]⟩ : ByteArray), .string (⟨#[]⟩ : ByteArray), .slice none 0 0]) ?_ 1 _ rfl; (with_reducible repeat (first | refine blk_drewN ?_ _ | refine blk_drew ?_ | refine blk_alloc ?_ _)); refine blk_put (cs := #[.int .i64 0, .string (⟨#[]⟩ : ByteArray), .string (⟨#[]⟩ : ByteArray), .slice none 0 0]) ?_ 0 _ rfl; (with_reducible repeat (first | refine blk_drewN ?_ _ | refine blk_drew ?_ | refine blk_alloc ?_ _)); exact BK348.out) hb); replace HB := mk0 (below_step ((bg2 GW333 GE348)) hb); clear hb))
       replace HO340 := mk0 (Kd.R_drew HO340.out)
       replace HO347 := mk0 (Kd.R_drew HO347.out)
       replace BK333 := mk0 (blk_drew BK333.out)
       replace BK348 := mk0 (blk_drew BK348.out)
       replace HB := mk0 (below_drew1 HB.out)
       refine st0 5 (b4 BK348 (b4 BK333 n_)) (fun hHeld => ?_)
       generalize w60.drew = w61 at HO340 HO347 BK333 BK348 HB hHeld ⊢
       refine tk0 0 (some 22) hHeld ?_
       refine tk0 1 (some 23) hHeld ?_
       refine on0 2 (some 24) (fun K hK => ?_)
       refine oR Try.func15 #[.agg #[.int .i64 a0_0, .string a0_1, .string a0_2, .slice A0_3 l0_3.length c0_3]] (laws_toSeal.calls k a0_0 a0_1 a0_2 _ _ l0_3 t350 t351 t352 t353 _ (cc (Kd.C_below HR0_3.out HB.out)) HC0_3.out A26.out) ?_
       intro v354 w62 ho0 hb
       have HO355 := mk0 (Kd.R_lower (Kd.R_new' (Kd.R_new' ho0 (Kd.R_lt (rr HO340.out))) (Kd.R_lt (rr HO347.out))) (below_size ((bg2 GW333 GE348))))
       replace HO340 := mk0 (Kd.R_elder' (rr HO340.out) (Kd.R_base ho0) hb)
       replace HO347 := mk0 (Kd.R_elder' (rr HO347.out) (Kd.R_base ho0) hb)
       replace BK333 := mk0 (blk_below (kb BK333.out) hb)
       replace BK348 := mk0 (blk_below (kb BK348.out) hb)
       replace HB := mk0 (below_step ((bg2 GW333 GE348)) hb)
       (try clear hb); (try clear hk); (try clear ho0)
       obtain ⟨Ao63, co63, eo63⟩ := Kd.R_slice HO355.out
       (first | subst eo63 | (injection eo63 with f1_ f2_ f3_; have f4_ := f1_.symm; have f5_ := f3_.symm; clear f1_ f2_ f3_; subst f4_; subst f5_))
       refine hK.out _ _ ah (fun hHeld => ?_)
       clear hK K
       refine nr ?_
       refine on0 3 (some 25) (fun K hK => ?_)
       refine oB Try.func17 #[.agg #[.int .i64 t342, .string t343, .string t344, .slice Ao59 t345.length co59], .agg #[.int .i64 t350, .string t351, .string t352, .slice Ao63 t353.length co63]] (laws_eqSeal.calls k t342 t343 t344 _ _ t345 t350 t351 t352 _ _ t353 false _ (cc ((Kd.R_reads' HO347.out).2.2)) ((Kd.R_reads' HO347.out).2.1) (cc ((Kd.R_reads' HO355.out).2.2)) ((Kd.R_reads' HO355.out).2.1) A27.out) ?_
       intro w64 hb
       replace HO340 := mk0 (Kd.R_below (rr HO340.out) hb)
       replace HO347 := mk0 (Kd.R_below (rr HO347.out) hb)
       replace HO355 := mk0 (Kd.R_below (rr HO355.out) hb)
       replace BK333 := mk0 (blk_below (kb BK333.out) hb)
       replace BK348 := mk0 (blk_below (kb BK348.out) hb)
       replace HB := mk0 (below_step ((bg2 GW333 GE348)) hb)
       (try clear hb); (try clear hk)
       refine hK.out _ _ ah (fun hHeld => ?_)
       clear hK K
       refine nr ?_
       refine pu0 4 (some 26) ?_
       refine done_ (by kernel_rfl) ?_
       try go_wp2
       go_ret
       exact ⟨sw, (bg2 GW333 GE348)⟩
end Go.Proofs.Ytlekeiokdmnboaa.Pa
end

section
/- The law of SealOk is true at every input; plain Lean over the printed functions. -/
namespace Go.Proofs.Ytlekeiokdmnboaa.Pu
open Go Go.RowKit Go.Proofs.YtlekeiokdmnboaaW.PrintWords Go.Proofs.YtlekeiokdmnboaaW.PrintLast Go.Proofs.YtlekeiokdmnboaaW.PrintMore Go.Proofs.Ytlekeiokdmnboaa.Pa
set_option linter.unusedVariables false

theorem in_spec (a b c : Int) : spec_l1In.f a b c = some (decide (b ≤ a ∧ a ≤ c)) := by
  unfold spec_l1In.f
  by_cases h : a ≥ b
  · rw [if_pos h]; congr 1; simp only [decide_eq_decide]; omega
  · rw [if_neg h]; congr 1; symm; simp only [decide_eq_false_iff_not]; omega
theorem in_impl (a b c : Int) : impl_inRange.f a b c = some (decide (b ≤ a ∧ a ≤ c)) := by
  unfold impl_inRange.f
  by_cases h : a ≥ b
  · rw [if_pos h]; congr 1; simp only [decide_eq_decide]; omega
  · rw [if_neg h]; congr 1; symm; simp only [decide_eq_false_iff_not]; omega
/-- What both answer of a seal. -/
def sealB (q : Int) (p s : ByteArray) (rs : List ByteArray) : Bool :=
  decide ((1 ≤ q ∧ q ≤ 1000) ∧ p.size = 32 ∧ (1 ≤ rs.length ∧ rs.length ≤ 8) ∧ ∀ x ∈ rs, x.size = 32) && (s.toList == (sha (superB q p rs)).toList)
theorem sealB_of {q : Int} {p s : ByteArray} {rs : List ByteArray} (h1 : 1 ≤ q ∧ q ≤ 1000) (h2 : p.size = 32) (h3 : 1 ≤ rs.length ∧ rs.length ≤ 8) (h4 : ∀ x ∈ rs, x.size = 32) : sealB q p s rs = (s.toList == (sha (superB q p rs)).toList) := by
  unfold sealB
  rw [decide_eq_true ⟨h1, h2, h3, h4⟩, Bool.true_and]
theorem sealB_not {q : Int} {p s : ByteArray} {rs : List ByteArray} (h : ¬ ((1 ≤ q ∧ q ≤ 1000) ∧ p.size = 32 ∧ (1 ≤ rs.length ∧ rs.length ≤ 8) ∧ ∀ x ∈ rs, x.size = 32)) : sealB q p s rs = false := by
  unfold sealB
  rw [decide_eq_false h, Bool.false_and]
theorem small_total (rs : List ByteArray) (h4 : ∀ x ∈ rs, x.size = 32) : total rs = 33 * rs.length := by
  induction rs with
  | nil => rfl
  | cons s l ih => rw [total_cons, ih (fun x hx => h4 x (List.mem_cons_of_mem _ hx)), h4 s (by simp), List.length_cons]; omega
theorem seal_spec (q : Int) (p s : ByteArray) (rs : List ByteArray) : Ev (fun k => spec_SealOk.f k q p s rs) (sealB q p s rs) := by
  have jt : Ev (fun k => spec_SealOk.j0 k true q p s rs) false := by
    refine Ev.step (f := fun _ => some false) (fun k => ?_) (Ev.now _)
    show (if true = true then some false else spec_SealOk.l0 k 0 q p s rs) = _
    exact if_pos rfl
  by_cases h1 : 1 ≤ q ∧ q ≤ 1000
  · by_cases h2 : p.size = 32
    · by_cases h3 : 1 ≤ rs.length ∧ rs.length ≤ 8
      · have loop : ∀ (j i : Nat), rs.length - i = j → i ≤ rs.length → (∀ x ∈ rs.take i, x.size = 32) → Ev (fun k => spec_SealOk.l0 k (i : Int) q p s rs) (sealB q p s rs) := by
          intro j
          induction j with
          | zero =>
            intro i hj hi hall
            have h4 : ∀ x ∈ rs, x.size = 32 := fun x hx => hall x (by rw [List.take_of_length_le (by omega)]; exact hx)
            have ht := small_total rs h4
            refine Ev.step (f := fun k => (spec_SuperOf.f k q p rs).bind fun t => some (s.toList == t.toList)) (fun k => ?_) (Ev.bind (super_spec q p rs (by omega)) (by rw [sealB_of h1 h2 h3 h4]; exact Ev.now _))
            show (if (i : Int) < (rs.length : Int) then _ else _) = _
            rw [if_neg (by omega)]
          | succ j ih =>
            intro i hj hi hall
            have hlt : i < rs.length := by omega
            have hr : rdOf ByteArray.empty rs (i : Int) = rs[i] := rdOf_at (List.getElem?_eq_getElem hlt)
            by_cases h5 : rs[i].size = 32
            · refine Ev.step (fun k => ?_) (ih (i + 1) (by omega) (by omega) (fun x hx => ?_))
              · show (if (i : Int) < (rs.length : Int) then _ else _) = _
                rw [if_pos (by omega), if_pos (by omega), hr, if_pos (by omega), n64 ((i : Int) + 1) (by omega)]
                rfl
              · rw [List.take_succ_eq_append_getElem hlt] at hx
                rcases List.mem_append.1 hx with hx | hx
                · exact hall x hx
                · simp at hx; rw [hx]; exact h5
            · rw [sealB_not (fun h => h5 (h.2.2.2 _ (List.getElem_mem hlt)))]
              refine Ev.step (f := fun _ => some false) (fun k => ?_) (Ev.now _)
              show (if (i : Int) < (rs.length : Int) then _ else _) = _
              rw [if_pos (by omega), if_pos (by omega), hr, if_neg (by omega)]
        have e := loop rs.length 0 (by omega) (by omega) (by simp)
        refine Ev.congr (f := fun k => spec_SealOk.j0 k false q p s rs) (fun k => ?_) (Ev.step (fun k => ?_) e)
        · show ((spec_l1In.f q 1 1000).bind _) = _
          rw [in_spec, Option.bind_some, if_pos (by simpa using h1), if_pos (by omega), in_spec, Option.bind_some]
          rw [show decide ((1 : Int) ≤ (rs.length : Int) ∧ (rs.length : Int) ≤ 8) = true from decide_eq_true (by omega)]
          rfl
        · show (if false = true then some false else spec_SealOk.l0 k 0 q p s rs) = _
          rw [if_neg (by simp)]
          rfl
      · rw [sealB_not (fun h => h3 h.2.2.1)]
        refine Ev.congr (fun k => ?_) jt
        show ((spec_l1In.f q 1 1000).bind _) = _
        rw [in_spec, Option.bind_some, if_pos (by simpa using h1), if_pos (by omega), in_spec, Option.bind_some]
        rw [show decide ((1 : Int) ≤ (rs.length : Int) ∧ (rs.length : Int) ≤ 8) = false from decide_eq_false (by omega)]
        rfl
    · rw [sealB_not (fun h => h2 h.2.1)]
      refine Ev.congr (fun k => ?_) jt
      show ((spec_l1In.f q 1 1000).bind _) = _
      rw [in_spec, Option.bind_some, if_pos (by simpa using h1), if_neg (by omega)]
  · rw [sealB_not (fun h => h1 h.1)]
    refine Ev.congr (fun k => ?_) jt
    show ((spec_l1In.f q 1 1000).bind _) = _
    rw [in_spec, Option.bind_some, if_neg (by simpa using h1)]
theorem seal_impl (q : Int) (p s : ByteArray) (rs : List ByteArray) (hn : rs.length ≤ 9223372036854775800) : Ev (fun k => impl_SealOk.f k q p s rs) (sealB q p s rs) := by
  have loop : ∀ (j i : Nat), rs.length - i = j → i ≤ rs.length → (∀ x ∈ rs.take i, x.size = 32) → Ev (fun k => impl_SealOk.l0 k rs (rs.length : Int) (i : Int) q p s rs) (sealB q p s rs) := by
    intro j
    induction j with
    | zero =>
      intro i hj hi hall
      have h4 : ∀ x ∈ rs, x.size = 32 := fun x hx => hall x (by rw [List.take_of_length_le (by omega)]; exact hx)
      have ht := small_total rs h4
      by_cases h1 : 1 ≤ q ∧ q ≤ 1000
      · by_cases h2 : p.size = 32
        · by_cases h3 : 1 ≤ rs.length ∧ rs.length ≤ 8
          · refine Ev.step (f := fun k => (impl_SuperOf.f k q p rs).bind fun t => some (s.toList == t.toList)) (fun k => ?_) (Ev.bind (super_impl q p rs (by omega)) (by rw [sealB_of h1 h2 h3 h4]; exact Ev.now _))
            show (if (i : Int) < (rs.length : Int) then _ else _) = _
            rw [if_neg (by omega), in_impl, Option.bind_some, if_pos (by simpa using h1), if_pos (by omega), in_impl, Option.bind_some, if_pos (decide_eq_true (by omega))]
          · rw [sealB_not (fun h => h3 h.2.2.1)]
            refine Ev.step (f := fun _ => some false) (fun k => ?_) (Ev.now _)
            show (if (i : Int) < (rs.length : Int) then _ else _) = _
            rw [if_neg (by omega), in_impl, Option.bind_some, if_pos (by simpa using h1), if_pos (by omega), in_impl, Option.bind_some, if_neg (by rw [decide_eq_true_eq]; omega)]
        · rw [sealB_not (fun h => h2 h.2.1)]
          refine Ev.step (f := fun _ => some false) (fun k => ?_) (Ev.now _)
          show (if (i : Int) < (rs.length : Int) then _ else _) = _
          rw [if_neg (by omega), in_impl, Option.bind_some, if_pos (by simpa using h1), if_neg (by omega)]
      · rw [sealB_not (fun h => h1 h.1)]
        refine Ev.step (f := fun _ => some false) (fun k => ?_) (Ev.now _)
        show (if (i : Int) < (rs.length : Int) then _ else _) = _
        rw [if_neg (by omega), in_impl, Option.bind_some, if_neg (by simpa using h1)]
    | succ j ih =>
      intro i hj hi hall
      have hlt : i < rs.length := by omega
      have hr : rdOf ByteArray.empty rs (i : Int) = rs[i] := rdOf_at (List.getElem?_eq_getElem hlt)
      by_cases h5 : rs[i].size = 32
      · refine Ev.step (fun k => ?_) (ih (i + 1) (by omega) (by omega) (fun x hx => ?_))
        · show (if (i : Int) < (rs.length : Int) then _ else _) = _
          rw [if_pos (by omega), if_pos (by omega), if_pos (by omega), hr, if_pos (by omega), n64 ((i : Int) + 1) (by omega)]
          rfl
        · rw [List.take_succ_eq_append_getElem hlt] at hx
          rcases List.mem_append.1 hx with hx | hx
          · exact hall x hx
          · simp at hx; rw [hx]; exact h5
      · rw [sealB_not (fun h => h5 (h.2.2.2 _ (List.getElem_mem hlt)))]
        refine Ev.step (f := fun _ => some false) (fun k => ?_) (Ev.now _)
        show (if (i : Int) < (rs.length : Int) then _ else _) = _
        rw [if_pos (by omega), if_pos (by omega), if_pos (by omega), hr, if_neg (by omega)]
  exact loop rs.length 0 (by omega) (by omega) (by simp)
theorem to_seal (q : Int) (p s : ByteArray) (rs : List ByteArray) (hn : rs.length ≤ 17592186044416) : Ev (fun k => laws_toSeal.f k q p s rs) (q, p, s, rs) := Ev.bind (to_texts rs hn) (Ev.now _)
theorem eq_seal (q : Int) (p s : ByteArray) (rs : List ByteArray) (hn : rs.length ≤ 9223372036854775800) : Ev (fun k => laws_eqSeal.f k q p s rs q p s rs) true := by
  refine Ev.congr (f := fun k => (laws_eqStringS.f k rs rs).bind fun t => if t = true then some true else some false) (fun k => ?_) (Ev.bind (eq_texts rs hn) (Ev.congr (fun k => by rw [if_pos rfl]) (Ev.now _)))
  unfold laws_eqSeal.f
  rw [if_pos rfl, if_pos rfl, if_pos rfl]
theorem sz_seal (q : Int) (p s : ByteArray) (rs : List ByteArray) (hp : p.size ≤ 9223372036854775807) (hs : s.size ≤ 9223372036854775807) (hr : Has rs) (a : Int) (h0 : 0 ≤ a) (h1 : a ≤ 1099511627776) :
    Ev (fun k => laws_szSeal.f k q p s rs a) (if (p.size + s.size + total rs : Int) ≤ a then a - (p.size + s.size + total rs : Int) else -1) := by
  have w1 : wrap64 (a - (p.size : Int)) = a - (p.size : Int) := n64 _ (by omega)
  by_cases c1 : a - (p.size : Int) < 0
  · rw [if_neg (by omega)]
    refine Ev.congr (fun k => ?_) (Ev.now _)
    unfold laws_szSeal.f
    rw [w1, if_pos c1]
  · have w2 : wrap64 (a - (p.size : Int) - (s.size : Int)) = a - (p.size : Int) - (s.size : Int) := n64 _ (by omega)
    by_cases c2 : a - (p.size : Int) - (s.size : Int) < 0
    · rw [if_neg (by omega)]
      refine Ev.congr (fun k => ?_) (Ev.now _)
      unfold laws_szSeal.f
      rw [w1, if_neg c1, w2, if_pos c2]
    · refine Ev.congr (f := fun k => (laws_szStringS.f k rs (a - (p.size : Int) - (s.size : Int))).bind fun t => if t < 0 then some (-1) else some t) (fun k => ?_) (Ev.bind (sz_texts rs hr _ (by omega) (by omega)) (Ev.congr (fun k => ?_) (Ev.now _)))
      · unfold laws_szSeal.f
        rw [w1, if_neg c1, w2, if_neg c2]
      · by_cases c3 : (total rs : Int) ≤ a - (p.size : Int) - (s.size : Int)
        · have g : ¬ (a - (p.size : Int) - (s.size : Int) - (total rs : Int) < 0) := by omega
          have g2 : ((p.size : Int) + (s.size : Int) + (total rs : Int)) ≤ a := by omega
          rw [if_pos c3, if_neg g, if_pos g2]
          congr 1
          omega
        · have g2 : ¬ ((p.size : Int) + (s.size : Int) + (total rs : Int)) ≤ a := by omega
          rw [if_neg c3, if_neg g2, if_pos (show (-1 : Int) < 0 by decide)]
theorem law_seal (q : Int) (p s : ByteArray) (rs : List ByteArray) (hp : p.size ≤ 9223372036854775807) (hs : s.size ≤ 9223372036854775807) (hr : Has rs) : Ev (fun k => laws_FnExactSealOk.f k q p s rs) true := by
  obtain ⟨K1, e1⟩ := sz_seal q p s rs hp hs hr 1048576 (by omega) (by omega)
  dsimp only at e1
  by_cases c2 : (p.size + s.size + total rs : Int) ≤ 1048576
  · have hl := total_len rs
    obtain ⟨K2, e2⟩ := to_seal q p s rs (by omega)
    obtain ⟨K3, e3⟩ := seal_spec q p s rs
    obtain ⟨K4, e4⟩ := seal_impl q p s rs (by omega)
    obtain ⟨K5, e5⟩ := eq_seal q p s rs (by omega)
    dsimp only at e2 e3 e4 e5
    refine ⟨K1 + K2 + K3 + K4 + K5, fun k hk => ?_⟩
    show laws_FnExactSealOk.f k q p s rs = some true
    unfold laws_FnExactSealOk.f
    rw [e1 k (by omega)]
    simp only [Option.bind_some, if_pos c2]
    rw [if_neg (by omega)]
    simp only [e2 k (by omega), e3 k (by omega), e4 k (by omega), e5 k (by omega), Option.bind_some, if_true, bne_self_eq_false]
    rfl
  · refine ⟨K1, fun k hk => ?_⟩
    show laws_FnExactSealOk.f k q p s rs = some true
    unfold laws_FnExactSealOk.f
    rw [e1 k (by omega)]
    simp only [Option.bind_some, if_neg c2]
    rw [if_pos (by omega)]
end Go.Proofs.Ytlekeiokdmnboaa.Pu
end

section
/- The law of ChainOk is true at every input; plain Lean over the printed functions. -/
namespace Go.Proofs.Ytlekeiokdmnboaa.Pu
open Go Go.RowKit Go.Proofs.YtlekeiokdmnboaaW.PrintWords Go.Proofs.YtlekeiokdmnboaaW.PrintLast Go.Proofs.YtlekeiokdmnboaaW.PrintMore Go.Proofs.Ytlekeiokdmnboaa.Pa
set_option linter.unusedVariables false

/-- A seal as the law holds it, as the program holds it. -/
def conv (x : S29) : S32 := ⟨x.f0, x.f1, x.f2, x.f3⟩
def tot (x : S29) : Nat := x.f1.size + x.f2.size + total x.f3
def totS (l : List S29) : Nat := (l.map fun x => tot x + 1).sum
theorem totS_cons (x : S29) (l : List S29) : totS (x :: l) = tot x + 1 + totS l := by simp [totS]
def sumS (l : List S29) : Nat := (l.map tot).sum
theorem sumS_cons (x : S29) (l : List S29) : sumS (x :: l) = tot x + sumS l := by simp [sumS]
theorem totS_sum (l : List S29) : totS l = sumS l + l.length := by
  induction l with
  | nil => rfl
  | cons s l ih => rw [totS_cons, sumS_cons, ih, List.length_cons]; omega
theorem sumS_mem (l : List S29) (x : S29) (h : x ∈ l) : tot x ≤ sumS l := by
  induction l with
  | nil => simp at h
  | cons s l ih =>
    rw [sumS_cons]
    rcases List.mem_cons.1 h with rfl | h
    · omega
    · have := ih h; omega
/-- Seals that Go has. -/
def HasS (l : List S29) : Prop := l.length ≤ 9223372036854775807 ∧ ∀ x ∈ l, x.f1.size ≤ 9223372036854775807 ∧ x.f2.size ≤ 9223372036854775807 ∧ Has x.f3
theorem t29_at {l : List S29} {i : Nat} (h : i < l.length) : rd_T29 l (i : Int) = l[i] := by simp [rd_T29, List.getD_eq_getElem?_getD, h]
theorem t32_at {l : List S32} {i : Nat} (h : i < l.length) : rd_T32 l (i : Int) = l[i] := by simp [rd_T32, List.getD_eq_getElem?_getD, h]
theorem sz_seals (l : List S29) (hl : HasS l) (a : Int) (h0 : 0 ≤ a) (h1 : a ≤ 1099511627776) : Ev (fun k => laws_szSealS.f k l a) (if (totS l : Int) ≤ a then a - totS l else -1) := by
  have loop : ∀ (j i : Nat) (x : Int), l.length - i = j → i ≤ l.length → 0 ≤ x → x ≤ 1099511627776 → l.length ≤ 1099511627776 → Ev (fun k => laws_szSealS.l0 k l x (i : Int)) (if (sumS (l.drop i) : Int) ≤ x then x - sumS (l.drop i) else -1) := by
    intro j
    induction j with
    | zero =>
      intro i x hj hi h0 h1 hn
      have : l.drop i = [] := List.drop_eq_nil_of_le (by omega)
      rw [this, show sumS [] = 0 from rfl, if_pos (by omega)]
      refine Ev.step (fun k => ?_) (Ev.now _)
      show (if (i : Int) < (l.length : Int) then _ else _) = _
      rw [if_neg (by omega)]
      simp
    | succ j ih =>
      intro i x hj hi h0 h1 hn
      have hlt : i < l.length := by omega
      obtain ⟨hs1, hs2, hs3⟩ := hl.2 l[i] (List.getElem_mem hlt)
      have e0 := sz_seal l[i].f0 l[i].f1 l[i].f2 l[i].f3 hs1 hs2 hs3 x h0 h1
      have et : ((l[i].f1.size : Int) + (l[i].f2.size : Int) + (total l[i].f3 : Int)) = (tot l[i] : Int) := by unfold tot; omega
      rw [et] at e0
      rw [drop_at hlt, sumS_cons]
      refine Ev.step (f := fun k => (laws_szSeal.f k l[i].f0 l[i].f1 l[i].f2 l[i].f3 x).bind fun t => if t < 0 then some (-1) else laws_szSealS.l0 k l t ((i + 1 : Nat) : Int)) (fun k => ?_) (Ev.bind e0 ?_)
      · show (if (i : Int) < (l.length : Int) then _ else _) = _
        rw [if_pos (by omega), if_pos (by omega), t29_at hlt, n64 ((i : Int) + 1) (by omega)]
        rfl
      · by_cases hneg : (tot l[i] : Int) ≤ x
        · rw [if_pos hneg]
          have e := ih (i + 1) (x - (tot l[i] : Int)) (by omega) (by omega) (by omega) (by omega) hn
          have : (if ((sumS (l.drop (i + 1)) : Nat) : Int) ≤ x - (tot l[i] : Int) then x - (tot l[i] : Int) - ((sumS (l.drop (i + 1)) : Nat) : Int) else -1) = (if ((tot l[i] + sumS (l.drop (i + 1)) : Nat) : Int) ≤ x then x - ((tot l[i] + sumS (l.drop (i + 1)) : Nat) : Int) else -1) := by
            split <;> split <;> omega
          rw [this] at e
          exact Ev.congr (fun k => by rw [if_neg (by omega)]) e
        · rw [if_neg hneg, if_neg (by omega)]
          exact Ev.congr (fun k => by rw [if_pos (by omega)]) (Ev.now _)
  have hn := hl.1
  have hw : wrap64 (a - (l.length : Int)) = a - (l.length : Int) := n64 _ (by omega)
  have ht := totS_sum l
  by_cases hneg : a - (l.length : Int) < 0
  · rw [if_neg (by omega)]
    refine Ev.congr (fun k => ?_) (Ev.now _)
    show (if (wrap64 (a - (l.length : Int))) < 0 then _ else _) = _
    rw [hw, if_pos hneg]
  · have e := loop l.length 0 (a - (l.length : Int)) (by omega) (by omega) (by omega) (by omega) (by omega)
    rw [List.drop_zero] at e
    have : (if ((sumS l : Nat) : Int) ≤ a - (l.length : Int) then a - (l.length : Int) - ((sumS l : Nat) : Int) else -1) = (if ((totS l : Nat) : Int) ≤ a then a - ((totS l : Nat) : Int) else -1) := by
      split <;> split <;> omega
    rw [this] at e
    refine Ev.congr (fun k => ?_) e
    show (if (wrap64 (a - (l.length : Int))) < 0 then _ else _) = _
    rw [hw, if_neg hneg]
    rfl
theorem set_map {α β : Type} (g : α → β) (l : List α) (i : Nat) (z : β) (h : i < l.length) : ((l.take i).map g ++ List.replicate (l.length - i) z).set i (g l[i]) = (l.take (i + 1)).map g ++ List.replicate (l.length - (i + 1)) z := by
  have h1 : ((l.take i).map g).length = i := by rw [List.length_map, List.length_take]; omega
  rw [List.set_append_right _ _ (by omega), h1, Nat.sub_self]
  obtain ⟨m, hm⟩ : ∃ m, l.length - i = m + 1 := ⟨l.length - i - 1, by omega⟩
  rw [hm, show l.length - (i + 1) = m by omega, List.replicate_succ, List.set_cons_zero, List.take_succ_eq_append_getElem h, List.map_append, List.append_assoc]
  rfl
theorem to_seals (l : List S29) (hl : l.length ≤ 4398046511104) (hm : ∀ x ∈ l, x.f3.length ≤ 17592186044416) : Ev (fun k => laws_toSealS.f k l) (l.map conv) := by
  have loop : ∀ (j i : Nat), l.length - i = j → i ≤ l.length → Ev (fun k => laws_toSealS.l0 k l ((l.take i).map conv ++ List.replicate (l.length - i) z32) (i : Int)) (l.map conv) := by
    intro j
    induction j with
    | zero =>
      intro i hj hi
      obtain rfl : i = l.length := by omega
      rw [List.take_length, Nat.sub_self, List.replicate_zero, List.append_nil]
      refine Ev.step (fun k => ?_) (Ev.now _)
      show (if (l.length : Int) < (l.length : Int) then _ else _) = _
      rw [if_neg (by omega)]
    | succ j ih =>
      intro i hj hi
      have hlt : i < l.length := by omega
      have e := ih (i + 1) (by omega) (by omega)
      rw [← set_map conv l i _ hlt] at e
      have hlen : ((l.take i).map conv ++ List.replicate (l.length - i) z32).length = l.length := by simp; omega
      refine Ev.step (f := fun k => (laws_toSeal.f k l[i].f0 l[i].f1 l[i].f2 l[i].f3).bind fun b => laws_toSealS.l0 k l (((l.take i).map conv ++ List.replicate (l.length - i) z32).set i (⟨b.1, b.2.1, b.2.2.1, b.2.2.2⟩ : S32)) ((i + 1 : Nat) : Int)) (fun k => ?_)
        (Ev.bind (to_seal l[i].f0 l[i].f1 l[i].f2 l[i].f3 (hm _ (List.getElem_mem hlt))) e)
      show (if (i : Int) < (l.length : Int) then _ else _) = _
      rw [hlen, if_pos (by omega), if_pos (by omega), t29_at hlt, n64 ((i : Int) + 1) (by omega)]
      simp only [if_pos (show (i : Int) < (l.length : Int) by omega)]
      rfl
  have e := loop l.length 0 (by omega) (by omega)
  rw [List.take_zero, List.map_nil, List.nil_append, Nat.sub_zero] at e
  refine Ev.congr (fun k => ?_) e
  show (if 0 ≤ (l.length : Int) then _ else _) = _
  rw [if_pos (by omega), if_pos (by omega)]
  rfl
theorem eq_seals (l : List S32) (hl : l.length ≤ 9223372036854775800) (hm : ∀ x ∈ l, x.f3.length ≤ 9223372036854775800) : Ev (fun k => laws_eqSealS.f k l l) true := by
  have loop : ∀ (j i : Nat), l.length - i = j → i ≤ l.length → Ev (fun k => laws_eqSealS.l0 k l l (i : Int)) true := by
    intro j
    induction j with
    | zero =>
      intro i hj hi
      refine Ev.step (fun k => ?_) (Ev.now _)
      show (if (i : Int) < (l.length : Int) then _ else _) = _
      rw [if_neg (by omega)]
    | succ j ih =>
      intro i hj hi
      have hlt : i < l.length := by omega
      refine Ev.step (f := fun k => (laws_eqSeal.f k l[i].f0 l[i].f1 l[i].f2 l[i].f3 l[i].f0 l[i].f1 l[i].f2 l[i].f3).bind fun t => if t = true then laws_eqSealS.l0 k l l ((i + 1 : Nat) : Int) else some false) (fun k => ?_)
        (Ev.bind (eq_seal l[i].f0 l[i].f1 l[i].f2 l[i].f3 (hm _ (List.getElem_mem hlt))) (Ev.congr (fun k => by rw [if_pos rfl]) (ih (i + 1) (by omega) (by omega))))
      show (if (i : Int) < (l.length : Int) then _ else _) = _
      rw [if_pos (by omega), if_pos (by omega), if_pos (by omega), t32_at hlt, n64 ((i : Int) + 1) (by omega)]
      rfl
  refine Ev.congr (fun k => ?_) (loop l.length 0 (by omega) (by omega))
  show (if (l.length : Int) = (l.length : Int) then _ else _) = _
  rw [if_pos rfl]
  rfl
/-- The digest that the next seal has to bear. -/
def prevB (l : List S32) : ByteArray := if l.length = 0 then sha [] else (rd_T32 l ((l.length : Int) - 1)).f2
theorem prev_spec (l : List S32) (hl : l.length ≤ 9223372036854775800) : Ev (fun k => spec_l15Prev.f k l) (prevB l) := by
  unfold prevB
  by_cases h : l.length = 0
  · rw [if_pos h]
    refine Ev.congr (f := fun k => (spec_Digest.f k []).bind fun t => some t) (fun k => ?_) (Ev.bind (digest_spec [] (by simp) (by simp)) (Ev.now _))
    unfold spec_l15Prev.f
    rw [if_pos (by omega)]
  · rw [if_neg h]
    refine Ev.congr (fun k => ?_) (Ev.now _)
    unfold spec_l15Prev.f
    rw [if_neg (by omega), n64 _ (by omega), if_pos (by omega), if_pos (by omega)]
theorem prev_impl (l : List S32) (hl : l.length ≤ 9223372036854775800) : Ev (fun k => impl_prevOf.f k l) (prevB l) := by
  unfold prevB
  by_cases h : l.length = 0
  · rw [if_pos h]
    refine Ev.congr (f := fun k => (impl_Digest.f k []).bind fun t => some t) (fun k => ?_) (Ev.bind (digest_impl [] (by simp) (by simp)) (Ev.now _))
    unfold impl_prevOf.f
    rw [if_pos (by omega)]
  · rw [if_neg h]
    refine Ev.congr (fun k => ?_) (Ev.now _)
    unfold impl_prevOf.f
    rw [if_neg (by omega), n64 _ (by omega), if_pos (by omega), if_pos (by omega)]
/-- What both answer of the seals from number i on, j of them. -/
def chainB (l : List S32) : Nat → Nat → Bool
  | 0, _ => decide ((l.length : Int) ≤ 1000)
  | j + 1, i => if sealB (rd_T32 l (i : Int)).f0 (rd_T32 l (i : Int)).f1 (rd_T32 l (i : Int)).f2 (rd_T32 l (i : Int)).f3 = true then (if (rd_T32 l (i : Int)).f0 = ((i + 1 : Nat) : Int) then (if (rd_T32 l (i : Int)).f1.toList = (prevB (l.take i)).toList then chainB l j (i + 1) else false) else false) else false
theorem chain_spec (l : List S32) (hl : l.length ≤ 9223372036854775800) : Ev (fun k => spec_ChainOk.f k l) (chainB l l.length 0) := by
  have loop : ∀ (j i : Nat), l.length - i = j → i ≤ l.length → Ev (fun k => spec_ChainOk.l0 k l (i : Int)) (chainB l j i) := by
    intro j
    induction j with
    | zero =>
      intro i hj hi
      refine Ev.step (fun k => ?_) (Ev.now _)
      show (if (i : Int) < (l.length : Int) then _ else _) = _
      rw [if_neg (by omega)]
      rfl
    | succ j ih =>
      intro i hj hi
      have hlt : i < l.length := by omega
      generalize hx : rd_T32 l (i : Int) = x
      have hc : chainB l (j + 1) i = if sealB x.f0 x.f1 x.f2 x.f3 = true then (if x.f0 = ((i + 1 : Nat) : Int) then (if x.f1.toList = (prevB (l.take i)).toList then chainB l j (i + 1) else false) else false) else false := by rw [chainB, hx]
      rw [hc]
      refine Ev.step (f := fun k => (spec_SealOk.f k x.f0 x.f1 x.f2 x.f3).bind fun t => if t = true then (if x.f0 = ((i + 1 : Nat) : Int) then ((spec_l15Prev.f k (l.take i)).bind fun p => if x.f1.toList = p.toList then spec_ChainOk.l0 k l ((i + 1 : Nat) : Int) else some false) else some false) else some false) (fun k => ?_) (Ev.bind (seal_spec x.f0 x.f1 x.f2 x.f3) ?_)
      · show (if (i : Int) < (l.length : Int) then _ else _) = _
        rw [if_pos (by omega), if_pos (by omega), hx, n64 ((i : Int) + 1) (by omega)]
        simp only [if_pos (show (i : Int) ≤ (l.length : Int) by omega)]
        rfl
      · by_cases c1 : sealB x.f0 x.f1 x.f2 x.f3 = true
        · rw [if_pos c1]
          by_cases c2 : x.f0 = ((i + 1 : Nat) : Int)
          · rw [if_pos c2]
            refine Ev.congr (f := fun k => (spec_l15Prev.f k (l.take i)).bind fun p => if x.f1.toList = p.toList then spec_ChainOk.l0 k l ((i + 1 : Nat) : Int) else some false) (fun k => by rw [if_pos c1, if_pos c2]) (Ev.bind (prev_spec (l.take i) (by rw [List.length_take]; omega)) ?_)
            by_cases c3 : x.f1.toList = (prevB (l.take i)).toList
            · rw [if_pos c3]; exact Ev.congr (fun k => by rw [if_pos c3]) (ih (i + 1) (by omega) (by omega))
            · rw [if_neg c3]; exact Ev.congr (fun k => by rw [if_neg c3]) (Ev.now _)
          · rw [if_neg c2]; exact Ev.congr (fun k => by rw [if_pos c1, if_neg c2]) (Ev.now _)
        · rw [if_neg c1]; exact Ev.congr (fun k => by rw [if_neg c1]) (Ev.now _)
  exact loop l.length 0 (by omega) (by omega)
theorem chain_impl (l : List S32) (hl : l.length ≤ 9223372036854775800) (hm : ∀ x ∈ l, x.f3.length ≤ 9223372036854775800) : Ev (fun k => impl_ChainOk.f k l) (chainB l l.length 0) := by
  have loop : ∀ (j i : Nat), l.length - i = j → i ≤ l.length → Ev (fun k => impl_ChainOk.l0 k l l (l.length : Int) (i : Int)) (chainB l j i) := by
    intro j
    induction j with
    | zero =>
      intro i hj hi
      refine Ev.step (fun k => ?_) (Ev.now _)
      show (if (i : Int) < (l.length : Int) then _ else _) = _
      rw [if_neg (by omega)]
      rfl
    | succ j ih =>
      intro i hj hi
      have hlt : i < l.length := by omega
      have hxm : (rd_T32 l (i : Int)).f3.length ≤ 9223372036854775800 := by rw [t32_at hlt]; exact hm _ (List.getElem_mem hlt)
      generalize hx : rd_T32 l (i : Int) = x at hxm
      have hc : chainB l (j + 1) i = if sealB x.f0 x.f1 x.f2 x.f3 = true then (if x.f0 = ((i + 1 : Nat) : Int) then (if x.f1.toList = (prevB (l.take i)).toList then chainB l j (i + 1) else false) else false) else false := by rw [chainB, hx]
      rw [hc]
      refine Ev.step (f := fun k => (impl_SealOk.f k x.f0 x.f1 x.f2 x.f3).bind fun t => if t = true then (if x.f0 = ((i + 1 : Nat) : Int) then ((impl_prevOf.f k (l.take i)).bind fun p => if x.f1.toList = p.toList then impl_ChainOk.l0 k l l (l.length : Int) ((i + 1 : Nat) : Int) else some false) else some false) else some false) (fun k => ?_) (Ev.bind (seal_impl x.f0 x.f1 x.f2 x.f3 hxm) ?_)
      · show (if (i : Int) < (l.length : Int) then _ else _) = _
        rw [if_pos (by omega), if_pos (by omega), if_pos (by omega), hx, n64 ((i : Int) + 1) (by omega)]
        simp only [if_pos (show (i : Int) ≤ (l.length : Int) by omega)]
        rfl
      · by_cases c1 : sealB x.f0 x.f1 x.f2 x.f3 = true
        · rw [if_pos c1]
          by_cases c2 : x.f0 = ((i + 1 : Nat) : Int)
          · rw [if_pos c2]
            refine Ev.congr (f := fun k => (impl_prevOf.f k (l.take i)).bind fun p => if x.f1.toList = p.toList then impl_ChainOk.l0 k l l (l.length : Int) ((i + 1 : Nat) : Int) else some false) (fun k => by rw [if_pos c1, if_pos c2]) (Ev.bind (prev_impl (l.take i) (by rw [List.length_take]; omega)) ?_)
            by_cases c3 : x.f1.toList = (prevB (l.take i)).toList
            · rw [if_pos c3]; exact Ev.congr (fun k => by rw [if_pos c3]) (ih (i + 1) (by omega) (by omega))
            · rw [if_neg c3]; exact Ev.congr (fun k => by rw [if_neg c3]) (Ev.now _)
          · rw [if_neg c2]; exact Ev.congr (fun k => by rw [if_pos c1, if_neg c2]) (Ev.now _)
        · rw [if_neg c1]; exact Ev.congr (fun k => by rw [if_neg c1]) (Ev.now _)
  exact loop l.length 0 (by omega) (by omega)
theorem law_chain (l : List S29) (hl : HasS l) : Ev (fun k => laws_FnExactChainOk.f k l) true := by
  obtain ⟨K1, e1⟩ := sz_seals l hl 1048576 (by omega) (by omega)
  dsimp only at e1
  by_cases c2 : (totS l : Int) ≤ 1048576
  · have ht := totS_sum l
    have hsm : ∀ x ∈ l, x.f3.length ≤ 1048576 := fun x hx => by
      have h1 := sumS_mem l x hx
      have h2 := total_len x.f3
      unfold tot at h1
      omega
    have hm32 : ∀ x ∈ l.map conv, x.f3.length ≤ 9223372036854775800 := fun x hx => by
      obtain ⟨y, hy, rfl⟩ := List.mem_map.1 hx
      have := hsm y hy
      show y.f3.length ≤ _
      omega
    have hlen : (l.map conv).length = l.length := List.length_map ..
    obtain ⟨K2, e2⟩ := to_seals l (by omega) (fun x hx => by have := hsm x hx; omega)
    obtain ⟨K3, e3⟩ := chain_spec (l.map conv) (by omega)
    obtain ⟨K4, e4⟩ := chain_impl (l.map conv) (by omega) hm32
    obtain ⟨K5, e5⟩ := eq_seals (l.map conv) (by omega) hm32
    dsimp only at e2 e3 e4 e5
    refine ⟨K1 + K2 + K3 + K4 + K5, fun k hk => ?_⟩
    show laws_FnExactChainOk.f k l = some true
    unfold laws_FnExactChainOk.f
    rw [e1 k (by omega)]
    simp only [Option.bind_some, if_pos c2]
    rw [if_neg (by omega)]
    simp only [e2 k (by omega), e3 k (by omega), e4 k (by omega), e5 k (by omega), Option.bind_some, if_true, bne_self_eq_false]
    rfl
  · refine ⟨K1, fun k hk => ?_⟩
    show laws_FnExactChainOk.f k l = some true
    unfold laws_FnExactChainOk.f
    rw [e1 k (by omega)]
    simp only [Option.bind_some, if_neg c2]
    rw [if_pos (by omega)]
end Go.Proofs.Ytlekeiokdmnboaa.Pu
end

section
/- Arguments that a row reads, told in the kinds of the printed text: whatever a type reads as is a value of its kind; plain Lean over any program. -/
namespace Go.Proofs.Ytlekeiokdmnboaa.Opn
open Go Go.RowKit Go.Proofs.YtlekeiokdmnboaaW.PrintWords

/-- Whatever reads as type t is a value of kind d; 'good': what the reading shows of it. -/
def Opn (P : Program) (t : TypeId) {α : Type} (d : Kd α) (good : α → Prop) : Prop :=
  P.cellsOf t = d.sz ∧ ∀ {H : Type} {enc : TypeId × Value → H} {w : World} {base : Nat} {sp : Nat → Bool} {held : Bool} {fuel : Nat} {cs : List Value} {x : DataW H × List MemPlace},
    DataW.trod enc P w base sp held fuel t cs = some x → ∃ a, d.K w a cs ∧ good a
/-- The same of fields in line, the first of which lies at offset o. -/
def OpnF (P : Program) (fs : List Field) (o : Nat) {α : Type} (d : Kd α) (good : α → Prop) : Prop :=
  ∀ (H : Type) (enc : TypeId × Value → H) (w : World) (base : Nat) (sp : Nat → Bool) (held : Bool) (fuel : Nat) (cs : List Value),
    cs.length = o + d.sz → (∀ f ∈ fs, ∃ x, DataW.trod enc P w base sp held fuel f.type ((cs.drop f.offset).take (P.cellsOf f.type)) = some x) → ∃ a, d.K w a (cs.drop o) ∧ good a

section
variable {P : Program} {t e : TypeId} {α β : Type}

theorem opn_int {k : IntKind} (ht : P.underlying t = some (.int k)) (hc : P.cellsOf t = 1) : Opn P t (Kd.int k) (fun a => (Lit.int k a).wf = true) :=
  ⟨hc, fun h => by
    obtain ⟨n, rfl, _, hw⟩ := DataW.trod_int ht h
    exact ⟨n, rfl, hw⟩⟩
theorem opn_string (ht : P.underlying t = some .string) (hc : P.cellsOf t = 1) : Opn P t Kd.string (fun s => s.size ≤ maxLen) :=
  ⟨hc, fun h => by
    obtain ⟨s, rfl, _, hw⟩ := DataW.trod_string ht h
    exact ⟨s, rfl, hw⟩⟩
/-- One after the other, each told of its place. -/
theorem choose_list {γ : Type} (n : Nat) (R : Nat → γ → Prop) (h : ∀ i, i < n → ∃ c, R i c) : ∃ l : List γ, l.length = n ∧ ∀ i c, l[i]? = some c → R i c := by
  induction n with
  | zero => exact ⟨[], rfl, fun i c hc => by simp at hc⟩
  | succ n ih =>
    obtain ⟨l, hl, hr⟩ := ih (fun i hi => h i (by omega))
    obtain ⟨c, hc⟩ := h n (by omega)
    refine ⟨l ++ [c], by simp [hl], fun i d hd => ?_⟩
    by_cases hi : i < n
    · rw [List.getElem?_append_left (by omega)] at hd
      exact hr i d hd
    · have hin : i = n := by
        have := (List.getElem?_eq_some_iff.1 hd).1
        simp at this; omega
      subst hin
      rw [List.getElem?_append_right (by omega)] at hd
      simp [hl] at hd
      subst hd
      exact hc
theorem opn_slice {d : Kd α} {good : α → Prop} (q : Nat) (ht : P.underlying t = some (.slice e)) (hc : P.cellsOf t = 1) (he : Opn P e d good) : Opn P t (Kd.slice q d) (fun l => l.length ≤ maxLen ∧ ∀ a ∈ l, good a) := by
  refine ⟨hc, fun {H enc w base sp held fuel cs x} h => ?_⟩
  rcases DataW.trod_slice ht h with ⟨rfl, _⟩ | ⟨a, len, cap, elems, rest, n, _, rfl, rfl, hb, hl, hm, hlen, hel, _, _⟩
  · exact ⟨[], ⟨none, 0, rfl, Nat.zero_le _, ⟨rfl, by simp, fun h0 => absurd h0 (by simp)⟩⟩, by simp, fun a ha => by simp at ha⟩
  · obtain ⟨l, hll, hr⟩ := choose_list (γ := α) len (fun i c => good c ∧ ∃ cs, cs.length = d.sz ∧ d.K w c cs ∧ ∀ j u, cs[j]? = some u → w.cell? (a.add (i * d.sz + j)) = some u) (fun i hi => by
      have h1 := hel i hi
      rw [List.getElem?_eq_getElem (by omega), Option.bind_eq_some_iff] at h1
      obtain ⟨cs, hcs, htr⟩ := h1
      obtain ⟨c, hk, hg⟩ := he.2 htr
      obtain ⟨_, hlen2, hcell⟩ := World.cells?_some hcs
      refine ⟨c, hg, cs, d.K_len hk, hk, fun j u hu => ?_⟩
      have hj : j < P.cellsOf e := by rw [← hlen2]; exact (List.getElem?_eq_some_iff.1 hu).1
      have h2 := hcell j hj
      rw [hu] at h2
      rw [← h2, he.1]
      congr 1
      unfold Addr.add
      by_cases z1 : i * d.sz = 0 <;> by_cases z2 : j = 0 <;> simp [z1, z2, Nat.add_assoc])
    refine ⟨l, ⟨some a, cap, by rw [hll], by omega, ⟨rfl, ?_, fun _ => ⟨a, rfl, fun j p hp => ?_⟩⟩⟩, by omega, fun c hc' => ?_⟩
    · simp only [maxLen] at hm; omega
    · obtain ⟨_, cs, h1, h2, h3⟩ := hr j p hp
      exact ⟨cs, h1, h2, h3⟩
    · obtain ⟨i, hi⟩ := List.getElem?_of_mem hc'
      exact (hr i c hi).1
theorem opnF_one {d : Kd α} {good : α → Prop} {f : Field} {o : Nat} (ho : f.offset = o) (hf : Opn P f.type d good) : OpnF P [f] o d good := fun H enc w base sp held fuel cs hlen hx => by
  obtain ⟨x, hx⟩ := hx f (by simp)
  obtain ⟨a, hk, hg⟩ := hf.2 hx
  refine ⟨a, ?_, hg⟩
  rw [ho, hf.1, List.take_of_length_le (by simp [hlen])] at hk
  exact hk
theorem opnF_cons {d : Kd α} {d2 : Kd β} {good : α → Prop} {good2 : β → Prop} {f : Field} {fs : List Field} {o : Nat} (ho : f.offset = o) (hf : Opn P f.type d good) (hs : OpnF P fs (o + d.sz) d2 good2) :
    OpnF P (f :: fs) o (Kd.pair d d2) (fun x => good x.1 ∧ good2 x.2) := fun H enc w base sp held fuel cs hlen hx => by
  obtain ⟨x, hx1⟩ := hx f (by simp)
  obtain ⟨a, hk, hg⟩ := hf.2 hx1
  obtain ⟨b, hk2, hg2⟩ := hs H enc w base sp held fuel cs (by rw [hlen]; show o + (d.sz + d2.sz) = _; omega) (fun g hg => hx g (by simp [hg]))
  rw [ho, hf.1] at hk
  refine ⟨(a, b), ⟨(cs.drop o).take d.sz, cs.drop (o + d.sz), ?_, hk, hk2⟩, hg, hg2⟩
  rw [← List.drop_drop, List.take_append_drop]
theorem opn_struct {d : Kd α} {good : α → Prop} {fs : List Field} (ht : P.underlying t = some (.struct fs.toArray)) (hc : P.cellsOf t = d.sz) (h : OpnF P fs 0 d good) (f : β → α) (g : α → β) (hfg : ∀ a, f (g a) = a) : Opn P t (Kd.iso d f) (fun x => good (f x)) := by
  refine ⟨hc, fun {H enc w base sp held fuel cs x} hx => ?_⟩
  obtain ⟨xs, n, rfl, rfl, hlen, hsz, hel⟩ := DataW.trod_struct ht hx
  obtain ⟨a, hk, hg⟩ := h H enc w base sp held n cs (by rw [hlen, hc, Nat.zero_add]) (fun q hq => by
    obtain ⟨i, hi⟩ := List.getElem?_of_mem hq
    have h1 := hel i q (by simpa using hi)
    have hi2 : i < xs.length := by
      have := (List.getElem?_eq_some_iff.1 hi).1
      simp at hsz; omega
    rw [List.getElem?_eq_getElem hi2] at h1
    exact ⟨_, h1⟩)
  refine ⟨g a, ?_, ?_⟩
  · show d.K w (f (g a)) cs
    rw [hfg]; simpa using hk
  · show good (f (g a))
    rw [hfg]; exact hg
end
end Go.Proofs.Ytlekeiokdmnboaa.Opn
end

section
/- The row of the law FnExactChainOk, out of its plain law and its walk. -/
namespace Go.Proofs.Ytlekeiokdmnboaa.fnExactChainOk
open Go.ChangeShapes Go.WideShapes Go.ChangeAt Go.RowKit Go.Proofs.Ytlekeiokdmnboaa.Pa Go.Proofs.Ytlekeiokdmnboaa.Opn Go.Proofs.YtlekeiokdmnboaaW.PrintWords
open Go.ChangeMaps (open_string shut_string)
theorem own : ownKnob Try.prog.godebug = none := by kernel_rfl
theorem laidOut : laidOutB Try.prog = true := by kernel_rfl
set_option maxRecDepth 100000 in
theorem lifted (os : Os) (started : os.Started) (H : Type) (enc : TypeId × Value → H) :
    ReturnsInHanded {} Try.checked os 6 .any (Rows.fnExactChainOkSpec.pre6 enc Try.prog Try.f6 Rows.fnExactChainOkRow.domain false) (Rows.fnExactChainOkSpec.post enc Try.prog Try.f6 false true false false) := by
  refine returnsInHanded_of_change_sized (C := Try.checked) own started (by kernel_rfl) Try.func6
    (ChangeSpec.witness6 (enc := enc) (C := Try.checked) false ⟨#[], #[.slice none 0 0], []⟩ 8 (by kernel_rfl) (by kernel_rfl) (by kernel_rfl) (by kernel_rfl)) ?_
  intro W base args ds gs before hval0 hW hcnd hsz0 _
  have hval : ∀ (j : Nat) t v, Try.f6.params[j]? = some t → args[j]? = some v → Value.okWide Try.prog W .any base t v := hval0
  have hW' := hW
  obtain ⟨p, q, hA0, hV, rfl, hfz, hnd⟩ := hW
  have hA : DataW.TrodAll enc Try.prog W 0 (fun _ => true) true Try.f6.params.toList args.toList ds p := hA0
  rw [Try.params6] at hA hval
  obtain ⟨v0, vs0, d0, ds0, p0, q0, hargs, rfl, rfl, h0, r0⟩ := trodAll_cons hA
  obtain ⟨rfl, rfl, rfl⟩ := trodAll_nil r0
  obtain rfl : args = #[v0] := by cases args; simp_all
  obtain ⟨rfl, rfl⟩ := trodVars_none hV
  obtain ⟨A0, len0, cap0, rfl⟩ := okWide_slice Try.underlying41 (hval 0 41 v0 rfl rfl)
  have k0 := h0
  have lt0 : ∀ x ∈ p0, x.block < W.heap.size := by obtain ⟨m, hm⟩ := k0; exact DataW.trod_lt m _ _ _ hm
  obtain ⟨fu0, hf0⟩ := h0
  obtain ⟨x0, ⟨Ax0, cx0, ex0, lc0, hc0⟩, g0⟩ := ((opn_slice 29 Try.underlying41 (by kernel_rfl) (opn_struct Try.underlying29 (by kernel_rfl) (opnF_cons rfl (opn_int Try.underlying3 (by kernel_rfl)) (opnF_cons rfl (opn_string Try.underlying9 (by kernel_rfl)) (opnF_cons rfl (opn_string Try.underlying9 (by kernel_rfl)) (opnF_one rfl (opn_slice 9 Try.underlying22 (by kernel_rfl) (opn_string Try.underlying9 (by kernel_rfl))))))) (fun x : S29 => (x.f0, x.f1, x.f2, x.f3)) (fun a => ⟨a.1, a.2.1, a.2.2.1, a.2.2.2⟩) (fun _ => rfl))) : Opn Try.prog 41 (Kd.slice 29 k29) _).2 hf0
  simp only [Value.cells, List.cons.injEq, Value.slice.injEq, and_true] at ex0
  obtain ⟨rfl, rfl, rfl⟩ := ex0
  obtain ⟨k, hk⟩ := Ev.rounds (Pu.law_chain x0 ⟨g0.1, fun x hx => ⟨(g0.2 x hx).2.1, (g0.2 x hx).2.2.1, (g0.2 x hx).2.2.2.1, (g0.2 x hx).2.2.2.2⟩⟩)
  refine (laws_FnExactChainOk.calls k _ _ x0 true W hc0 lc0 hk).mono fun e W' ⟨he, bel⟩ => ?_
  subst he
  exact ⟨_, rfl, _, _, _, [], _, [], hW', trodAll_mk1 (shut_bool Try.underlying4 _), (trodAll_cons_mk (Below.trod laidOut (by kernel_rfl) (of_decide_eq_true (by kernel_rfl)) k0 bel lt0) trodAll_mk0), rfl, bel.frame _, fun h => by cases h⟩
theorem over : Rows.fnExactChainOkRow.holds Try.pinned (OpenSpec.ofChange Rows.fnExactChainOkSpec) :=
  OpenClaim.holds_of_wide 6 Try.f6 rfl rfl rfl rfl rfl rfl rfl ⟨rfl, rfl, rfl, rfl, rfl⟩ rfl rfl rfl rfl rfl (by kernel_rfl) Try.func6 (by kernel_rfl)
    (of_decide_eq_true (by kernel_rfl)) (by unfold Func.isWrapper; first | (rw [if_pos (by decide +kernel)]; kernel_rfl) | (rw [if_neg (by decide +kernel)]; exact ⟨rfl, rfl⟩))
    (fun os started H enc _ => lifted os started H enc)
end Go.Proofs.Ytlekeiokdmnboaa.fnExactChainOk
namespace Go.Proofs.Ytlekeiokdmnboaa
/-- The row, for the claim. -/
theorem fnExactChainOk_holds : Rows.FnExactChainOkSaid := fnExactChainOk.over
#print axioms fnExactChainOk_holds
end Go.Proofs.Ytlekeiokdmnboaa
end
