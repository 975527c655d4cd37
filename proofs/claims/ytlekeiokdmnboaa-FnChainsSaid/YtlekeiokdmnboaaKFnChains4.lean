/- The law FnChains of the given program: it answers true at every input that its statement speaks of. Part 5 of 7: words, walks of the functions (printed by programs of this session), the plain law, the row. -/
import Derived.Test.YtlekeiokdmnboaaKFnChains2
import Derived.Test.YtlekeiokdmnboaaKFnChains0
import Derived.Test.YtlekeiokdmnboaaKFnChains3
import Derived.Test.YtlekeiokdmnboaaKFnChains1
section
namespace Go.Proofs.Ytlekeiokdmnboaa.Pa
open Go.RowKit Go.Proofs.YtlekeiokdmnboaaW.PrintWords Go.Proofs.YtlekeiokdmnboaaW.PrintLast Go.Proofs.YtlekeiokdmnboaaW.PrintMore Go.Proofs.Ytlekeiokdmnboaa.M
attribute [local go_sem] max2_int min2_int max_two min_two max_three min_three max_four min_four   -- for this text's walks alone
set_option linter.unusedVariables false
set_option maxHeartbeats 8000000
set_option maxRecDepth 100000
set_option linter.unusedSimpArgs false

/-! ### spec_l15Bend: function 72 -/
def spec_l15Bend.f (k : Nat) (s0_0 : List Int) (s0_1 : Int) (s0_2 : Int) (a1_0 : Int) (a1_1 : ByteArray) (a1_2 : ByteArray) (l1_3 : List ByteArray) : Option (Int × ByteArray × ByteArray × List ByteArray × Int × Int) := (some (([] : List ByteArray) : List ByteArray)).bind fun y443 => (if y443.length + l1_3.length < 8796093022208 then ((some (y443 ++ l1_3 : List ByteArray)).bind fun y446 => ((spec_l1Below.f s0_0 s0_1 s0_2 5).bind fun bt449 => (if bt449.1 = 0 then ((spec_l1Int.f s0_0 bt449.2.1 bt449.2.2 (([0, wrap64 (a1_0 + 1), 1001] : List Int))).bind fun bt455 => (some (bt455.1, a1_1, a1_2, y446, bt455.2.1, bt455.2.2))) else (if bt449.1 = 1 then ((spec_l1Str.f s0_0 bt449.2.1 bt449.2.2 (([(⟨#[]⟩ : ByteArray), (⟨#[120]⟩ : ByteArray)] : List ByteArray))).bind fun bt461 => (some (a1_0, bt461.1, a1_2, y446, bt461.2.1, bt461.2.2))) else (if bt449.1 = 2 then ((spec_Digest.f k (([9] : List Int))).bind fun t467 => (some (a1_0, a1_1, t467, y446, bt449.2.1, bt449.2.2))) else (if bt449.1 = 3 then ((spec_Digest.f k (([1] : List Int))).bind fun t471 => ((spec_l1Str.f s0_0 bt449.2.1 bt449.2.2 (([(⟨#[]⟩ : ByteArray), t471] : List ByteArray))).bind fun bt475 => (if y446.length < 8796093022208 then (some (a1_0, a1_1, a1_2, (y446 ++ [bt475.1]), bt475.2.1, bt475.2.2)) else (none)))) else (some (a1_0, a1_1, a1_2, y446, bt449.2.1, bt449.2.2)))))))) else (none))
theorem spec_l15Bend.mono : ∀ a0 a1 a2 a3 a4 a5 a6 k, LeO (spec_l15Bend.f k a0 a1 a2 a3 a4 a5 a6) (spec_l15Bend.f (k + 1) a0 a1 a2 a3 a4 a5 a6) := by
  intro a0 a1 a2 a3 a4 a5 a6 k
  unfold spec_l15Bend.f
  have m0 := @spec_Digest.mono
  exact me
def spec_l15Bend.T10 : Bool × List (List Nat × List Nat) := (true, [([], []), ([0], [0]), ([], []), ([], []), ([3], [3]), ([4], [4]), ([2, 5, 4], [2, 5]), ([6], [6]), ([1, 7, 6], [1, 7]), ([0, 1, 2, 3, 4, 5, 6, 7, 8], []), ([9, 8, 8, 0, 1, 2, 3, 4, 5, 6, 7, 8], [8, 9])])
def spec_l15Bend.B10 : List Nat := [0, 1, 0, 0, 8, 24, 60, 124, 255, 511, 1023]
theorem spec_l15Bend.tab10 : rtab .any (opsOf Try.f72 10) = spec_l15Bend.T10 := by kernel_rfl
theorem spec_l15Bend.bits10 : waitsOk spec_l15Bend.T10.2 spec_l15Bend.B10 = true := by kernel_rfl
theorem spec_l15Bend.calls (k : Nat) (g : Nat) (s0_0 : List Int) (s0_1 : Int) (s0_2 : Int) (a1_0 : Int) (a1_1 : ByteArray) (a1_2 : ByteArray) (A1_3 : Option Addr) (c1_3 : Nat) (l1_3 : List ByteArray) (r1 : Int) (r2 : ByteArray) (r3 : ByteArray) (r4 : List ByteArray) (r5 : Int) (r6 : Int) (w0 w : World) (hI : IsS101 w0 w g s0_0 s0_1 s0_2) (hB : Below w0.heap.size w0 w) (hr1_3 : Kd.C Kd.string w A1_3 l1_3.length l1_3) (hc1_3 : l1_3.length ≤ c1_3) (hf1_3 : ∀ ad, A1_3 = some ad → 0 < l1_3.length → ad.block ≠ g) (h : spec_l15Bend.f k s0_0 s0_1 s0_2 a1_0 a1_1 a1_2 l1_3 = some (r1, r2, r3, r4, r5, r6)) :
    Calls Try.prog 72 #[.pointer (some ⟨g, 0, none⟩), .agg #[.int .i64 a1_0, .string a1_1, .string a1_2, .slice A1_3 l1_3.length c1_3]] w fun e w' => ∃ v3_ : Value, e = .returned (.agg #[.int .i64 r1, .string r2, .string r3, v3_]) ∧ Kd.R Kd.string 9 w' w.heap.size (fun _ => True) v3_ r4 ∧ IsS101 w0 w' g s0_0 r5 r6 ∧ Below w0.heap.size w0 w' ∧ KeepBut w w' g none := by
 have hu32 := Try.underlying32
 have HR1_3 := mk0 hr1_3
 have HC1_3 := mk0 hc1_3
 clear hr1_3 hc1_3
 have HI0 := mk0 hI
 have HK := mk0 (KeepBut.refl w g none)
 have HL := mk0 hB.size
 clear hI
 have HW0 := mk0 hB.size
 have HB := mk0 hB
 clear hB
 have H : ((some (([] : List ByteArray) : List ByteArray)).bind fun y443 => (if y443.length + l1_3.length < 8796093022208 then ((some (y443 ++ l1_3 : List ByteArray)).bind fun y446 => ((spec_l1Below.f s0_0 s0_1 s0_2 5).bind fun bt449 => (if bt449.1 = 0 then ((spec_l1Int.f s0_0 bt449.2.1 bt449.2.2 (([0, wrap64 (a1_0 + 1), 1001] : List Int))).bind fun bt455 => (some (bt455.1, a1_1, a1_2, y446, bt455.2.1, bt455.2.2))) else (if bt449.1 = 1 then ((spec_l1Str.f s0_0 bt449.2.1 bt449.2.2 (([(⟨#[]⟩ : ByteArray), (⟨#[120]⟩ : ByteArray)] : List ByteArray))).bind fun bt461 => (some (a1_0, bt461.1, a1_2, y446, bt461.2.1, bt461.2.2))) else (if bt449.1 = 2 then ((spec_Digest.f k (([9] : List Int))).bind fun t467 => (some (a1_0, a1_1, t467, y446, bt449.2.1, bt449.2.2))) else (if bt449.1 = 3 then ((spec_Digest.f k (([1] : List Int))).bind fun t471 => ((spec_l1Str.f s0_0 bt449.2.1 bt449.2.2 (([(⟨#[]⟩ : ByteArray), t471] : List ByteArray))).bind fun bt475 => (if y446.length < 8796093022208 then (some (a1_0, a1_1, a1_2, (y446 ++ [bt475.1]), bt475.2.1, bt475.2.2)) else (none)))) else (some (a1_0, a1_1, a1_2, y446, bt449.2.1, bt449.2.2)))))))) else (none))) = some (r1, r2, r3, r4, r5, r6) := h
 clear h
 replace H := bz H; obtain ⟨y443, Ny443, H⟩ := H
 replace H := gl H; obtain ⟨LMc3, H⟩ := H
 replace H := bz H; obtain ⟨y446, Ny446, H⟩ := H
 replace H := bd H; obtain ⟨⟨t449, t450, t451⟩, A4, H⟩ := H
 (try dsimp only at H)
 replace H := iq H; rcases H with ⟨c5b0, c5b1, H⟩ | ⟨c5, c5b0, c5b1, H⟩
 · obtain ⟨y452, Ny452⟩ := nm (([0, wrap64 (a1_0 + 1), 1001] : List Int))
   replace H := bd H; obtain ⟨⟨t455, t456, t457⟩, A6, H⟩ := H; rw [← Ny452.out] at A6
   (try dsimp only at H)
   simp only [Option.some.injEq, Prod.mk.injEq] at H
   obtain ⟨rfl, rfl, rfl, rfl, rfl, rfl⟩ := H
   go_enter Try.func72, Try.ntmps72
   go_wp2_with (first | ((with_reducible refine gD 3 rfl ?_); refine bx0 3 #[.int .i64 a1_0, .string a1_1, .string a1_2, .slice A1_3 l1_3.length c1_3] 32 ?_; intro gb441 hg w7 hbox hb; replace HB := mk0 (below_step (by repeat (first | (with_reducible first | exact HB.out | apply below_alloc | apply pw_below_drewN | apply below_drew1 | refine below_set ?_ (IsS101.ge HI0.out)) | exact HB.out)) hb); have BK441 := mk0 (hbox); have GW441 := mk0 ((by rw [hg]; exact (keep_size (w := w) (g := g) (row := none) kk) : w.heap.size ≤ gb441)); have GE441 := mk0 ((Nat.le_trans HW0.out (by rw [hg]; exact (keep_size (w := w) (g := g) (row := none) kk) : w.heap.size ≤ gb441) : w0.heap.size ≤ gb441)); replace HK := mk0 (KeepBut.trans kk (KeepBut.of_below hb g none) (.inl rfl)); have NB0_441 := mk0 ((by rw [hg]; exact Nat.ne_of_lt (IsS101.lt (show IsS101 w0 _ g s0_0 s0_1 s0_2 from by repeat (first | (with_reducible first | exact HI0.out | apply IsS101.alloc | apply IsS101.drewN | apply IsS101.drew | apply IsS101.set_1 | apply IsS101.set_2) | exact HI0.out))) : g ≠ gb441)); have NB441_0 := mk0 ((by rw [hg]; exact Nat.ne_of_gt (IsS101.lt (show IsS101 w0 _ g s0_0 s0_1 s0_2 from by repeat (first | (with_reducible first | exact HI0.out | apply IsS101.alloc | apply IsS101.drewN | apply IsS101.drew | apply IsS101.set_1 | apply IsS101.set_2) | exact HI0.out))) : gb441 ≠ g)); replace HI0 := mk0 (IsS101.below (by repeat (first | (with_reducible first | exact HI0.out | apply IsS101.alloc | apply IsS101.drewN | apply IsS101.drew | apply IsS101.set_1 | apply IsS101.set_2) | exact HI0.out)) hb); clear hb hbox hg) | ((with_reducible refine gD 4 rfl ?_); refine bx0 4 #[.int .i64 0, .string (⟨#[]⟩ : ByteArray), .string (⟨#[]⟩ : ByteArray), .slice none 0 0] 32 ?_; intro gb442 hg w8 hbox hb; replace HB := mk0 (below_step (by repeat (first | (with_reducible first | exact HB.out | apply below_alloc | apply pw_below_drewN | apply below_drew1 | refine below_set ?_ (IsS101.ge HI0.out) | refine below_set ?_ GE441.out) | exact HB.out)) hb); have BK442 := mk0 (hbox); have GW442 := mk0 ((by rw [hg]; exact (keep_size (w := w) (g := g) (row := none) (by repeat (first | (with_reducible first | exact HK.out | apply KeepBut.set_ | apply keep_drewN | apply keep_drew | apply keep_alloc | refine keep_far ?_ GW441.out _) | exact HK.out))) : w.heap.size ≤ gb442)); have GE442 := mk0 ((Nat.le_trans HW0.out (by rw [hg]; exact (keep_size (w := w) (g := g) (row := none) (by repeat (first | (with_reducible first | exact HK.out | apply KeepBut.set_ | apply keep_drewN | apply keep_drew | apply keep_alloc | refine keep_far ?_ GW441.out _) | exact HK.out))) : w.heap.size ≤ gb442) : w0.heap.size ≤ gb442)); replace HK := mk0 (KeepBut.trans (by repeat (first | (with_reducible first | exact HK.out | apply KeepBut.set_ | apply keep_drewN | apply keep_drew | apply keep_alloc | refine keep_far ?_ GW441.out _) | exact HK.out)) (KeepBut.of_below hb g none) (.inl rfl)); have NB441_442 := mk0 ((by rw [hg]; exact Nat.ne_of_lt (blk_lt (g := gb441) (o := .cells #[.int .i64 a1_0, .string a1_1, .string a1_2, .slice A1_3 l1_3.length c1_3] 32 (0, 0)) (kb BK441.out)) : gb441 ≠ gb442)); have NB442_441 := mk0 ((by rw [hg]; exact Nat.ne_of_gt (blk_lt (g := gb441) (o := .cells #[.int .i64 a1_0, .string a1_1, .string a1_2, .slice A1_3 l1_3.length c1_3] 32 (0, 0)) (kb BK441.out)) : gb442 ≠ gb441)); replace BK441 := mk0 (blk_below (kb BK441.out) hb); have NB0_442 := mk0 ((by rw [hg]; exact Nat.ne_of_lt (IsS101.lt (show IsS101 w0 _ g s0_0 s0_1 s0_2 from by repeat (first | (with_reducible first | exact HI0.out | apply IsS101.alloc | apply IsS101.drewN | apply IsS101.drew | apply IsS101.set_1 | apply IsS101.set_2 | refine IsS101.far ?_ NB0_441.out _) | exact HI0.out))) : g ≠ gb442)); have NB442_0 := mk0 ((by rw [hg]; exact Nat.ne_of_gt (IsS101.lt (show IsS101 w0 _ g s0_0 s0_1 s0_2 from by repeat (first | (with_reducible first | exact HI0.out | apply IsS101.alloc | apply IsS101.drewN | apply IsS101.drew | apply IsS101.set_1 | apply IsS101.set_2 | refine IsS101.far ?_ NB0_441.out _) | exact HI0.out))) : gb442 ≠ g)); replace HI0 := mk0 (IsS101.below (by repeat (first | (with_reducible first | exact HI0.out | apply IsS101.alloc | apply IsS101.drewN | apply IsS101.drew | apply IsS101.set_1 | apply IsS101.set_2 | refine IsS101.far ?_ NB0_441.out _) | exact HI0.out)) hb); clear hb hbox hg) | ((with_reducible refine gD 5 rfl ?_); refine lt Kd.string 9 5 ([] : List ByteArray) [] ?_; intro v444 w9 ho10 hb hg_ hnew_; clear hg_ hnew_; (first | rw [← Ny443.out] at ho10 | (simp only [Int.reduceToNat] at ho10; rw [← Ny443.out] at ho10)); have HO445 := mk0 (Kd.R_lower ho10 (keep_size (w := w) (g := g) (row := none) (by repeat (first | (with_reducible first | exact HK.out | apply KeepBut.set_ | apply keep_drewN | apply keep_drew | apply keep_alloc | refine keep_far ?_ GW441.out _ | refine keep_far ?_ GW442.out _) | exact HK.out)))); replace BK441 := mk0 (blk_below (kb BK441.out) hb); replace BK442 := mk0 (blk_below (kb BK442.out) hb); replace HK := mk0 (KeepBut.trans (by repeat (first | (with_reducible first | exact HK.out | apply KeepBut.set_ | apply keep_drewN | apply keep_drew | apply keep_alloc | refine keep_far ?_ GW441.out _ | refine keep_far ?_ GW442.out _) | exact HK.out)) (KeepBut.of_below hb g none) (.inl rfl)); replace HB := mk0 (below_step (by repeat (first | (with_reducible first | exact HB.out | apply below_alloc | apply pw_below_drewN | apply below_drew1 | refine below_set ?_ (IsS101.ge HI0.out) | refine below_set ?_ GE441.out | refine below_set ?_ GE442.out) | exact HB.out)) hb); replace HI0 := mk0 (IsS101.below (by repeat (first | (with_reducible first | exact HI0.out | apply IsS101.alloc | apply IsS101.drewN | apply IsS101.drew | apply IsS101.set_1 | apply IsS101.set_2 | refine IsS101.far ?_ NB0_441.out _ | refine IsS101.far ?_ NB0_442.out _) | exact HI0.out)) hb); clear hb ho10; have hnb11 := NB441_442.out; have hnc11 := NB442_441.out; have hnb12 := NB441_0.out; have hnc12 := NB0_441.out; obtain ⟨hcz13_0, hcz13_1, hcz13_2, hcz13_3, hfz13_0, hfz13_1, hfz13_2, hfz13_3⟩ := z4 BK441) | ((with_reducible refine gate_builtin (b := .append) (xs := #[.tmp 5, .tmp 7]) rfl ?_); at_builtin; refine Kd.R_append_rows Kd.string w.heap.size rfl (.tmp 5) (.tmp 7) 22 9 (.string ⟨#[]⟩) 16 rfl Try.underlying22 info9 rfl (by decide) (by omega) v444 y443 l1_3 _ _ _ (fun _ => True) (fun _ => False) rfl rfl ?aO ?aR (fun _ _ h => h) (fun _ h => h.elim) ?aF (Below.refl _ _) ?aS ?aL ?_; (case aR => exact Kd.C_keep (⟨#[]⟩ : ByteArray) HR1_3.out (by repeat (first | (with_reducible first | exact HK.out | apply KeepBut.set_ | apply keep_drewN | apply keep_drew | apply keep_alloc | refine keep_far ?_ GW441.out _ | refine keep_far ?_ GW442.out _) | exact HK.out)) hf1_3); (case aF => exact (fun _ _ => trivial)); (case aO => exact (rr HO445.out)); (case aS => exact (keep_size (w := w) (g := g) (row := none) (by repeat (first | (with_reducible first | exact HK.out | apply KeepBut.set_ | apply keep_drewN | apply keep_drew | apply keep_alloc | refine keep_far ?_ GW441.out _ | refine keep_far ?_ GW442.out _) | exact HK.out)))); (case aL => have := LMc3.out; omega); intro v447 w14 ho hb hg hat; rw [← Ny446.out] at ho; replace BK441 := mk0 (blk_grown (g := gb441) (o := .cells #[.int .i64 a1_0, .string a1_1, .string a1_2, .slice A1_3 l1_3.length c1_3] 32 (0, 0)) (kb BK441.out) hg (Kd.R_ne HO445.out BK441.out (by decide))); replace BK442 := mk0 (blk_grown (g := gb442) (o := .cells #[.int .i64 0, .string (⟨#[]⟩ : ByteArray), .string (⟨#[]⟩ : ByteArray), .slice none 0 0] 32 (0, 0)) (kb BK442.out) hg (Kd.R_ne HO445.out BK442.out (by decide))); replace HB := mk0 (below_weaken (by repeat (first | (with_reducible first | exact HB.out | apply below_alloc | apply pw_below_drewN | apply below_drew1 | refine below_set ?_ (IsS101.ge HI0.out) | refine below_set ?_ GE441.out | refine below_set ?_ GE442.out) | exact HB.out)) HL.out hb); replace HI0 := mk0 (IsS101.grown (by repeat (first | (with_reducible first | exact HI0.out | apply IsS101.alloc | apply IsS101.drewN | apply IsS101.drew | apply IsS101.set_1 | apply IsS101.set_2 | refine IsS101.far ?_ NB0_441.out _ | refine IsS101.far ?_ NB0_442.out _) | exact HI0.out)) hg (IsS101.own_ne HI0.out HO445.out (by decide))); replace HK := mk0 (KeepBut.trans (by repeat (first | (with_reducible first | exact HK.out | apply KeepBut.set_ | apply keep_drewN | apply keep_drew | apply keep_alloc | refine keep_far ?_ GW441.out _ | refine keep_far ?_ GW442.out _) | exact HK.out)) (KeepBut.of_grown hg g) (Kd.R_base2 HO445.out)); have HO448 := mk0 (ho); clear HO445; clear ho hb hg hat; obtain ⟨Ao15, co15, eo15⟩ := Kd.R_slice HO448.out; subst eo15; obtain ⟨hcz16_0, hcz16_1, hcz16_2, hcz16_3, hfz16_0, hfz16_1, hfz16_2, hfz16_3⟩ := z4 BK441) | ((with_reducible refine gC 71 (some 11) rfl rfl ?_); refine gG (some 11) Try.func71 #[.pointer (some ⟨g, 0, none⟩), .int .i64 5] ?_; refine (spec_l1Below.calls g s0_0 s0_1 s0_2 5 t449 t450 t451 w0 _ ?side1 ?side2 A4.out).mono ?_; (case side1 => repeat (first | (with_reducible first | exact HI0.out | apply IsS101.alloc | apply IsS101.drewN | apply IsS101.drew | apply IsS101.set_1 | apply IsS101.set_2 | refine IsS101.far ?_ NB0_441.out _ | refine IsS101.far ?_ NB0_442.out _) | exact HI0.out)); (case side2 => repeat (first | (with_reducible first | exact HB.out | apply below_alloc | apply pw_below_drewN | apply below_drew1 | refine below_set ?_ (IsS101.ge HI0.out) | refine below_set ?_ GE441.out | refine below_set ?_ GE442.out) | exact HB.out)); rintro e w17 ⟨rfl, hi, hb, hk⟩; refine ⟨_, rfl, ?_⟩; replace BK442 := mk0 (KeepBut.blk hk (g' := gb442) (o := .cells #[.int .i64 0, .string (⟨#[]⟩ : ByteArray), .string (⟨#[]⟩ : ByteArray), .slice none 0 0] 32 (0, 0)) (by (with_reducible repeat (first | refine blk_drewN ?_ _ | refine blk_drew ?_ | refine blk_alloc ?_ _)); refine blk_far ?_ NB442_441.out _; (with_reducible repeat (first | refine blk_drewN ?_ _ | refine blk_drew ?_ | refine blk_alloc ?_ _)); exact BK442.out) NB442_0.out (by simp)); replace HO448 := mk0 (Kd.R_mono (Kd.R_keep (IsS101.apart (show IsS101 w0 _ g s0_0 s0_1 s0_2 from by repeat (first | (with_reducible first | exact HI0.out | apply IsS101.alloc | apply IsS101.drewN | apply IsS101.drew | apply IsS101.set_1 | apply IsS101.set_2 | refine IsS101.far ?_ NB0_441.out _ | refine IsS101.far ?_ NB0_442.out _) | exact HI0.out)) (by (with_reducible repeat (first | apply Kd.R_alloc | apply Kd.R_drewN | apply Kd.R_drew)); exact (Kd.R_mono (Kd.R_far (p := ⟨gb441, 3, none⟩) (Kd.R_types HO448.out BK441.out (by decide)) (fun _ hk => hk.2) (.slice Ao15 y446.length co15)) (fun _ h_ => h_.1))) (by decide)) hk (fun _ h => h.2)) (fun _ h => h.1)); replace BK441 := mk0 (KeepBut.blk hk (g' := gb441) (o := .cells #[.int .i64 a1_0, .string a1_1, .string a1_2, .slice Ao15 y446.length co15] 32 (0, 0)) (by (with_reducible repeat (first | refine blk_drewN ?_ _ | refine blk_drew ?_ | refine blk_alloc ?_ _)); refine blk_put (cs := #[.int .i64 a1_0, .string a1_1, .string a1_2, .slice A1_3 l1_3.length c1_3]) ?_ 3 _ rfl; (with_reducible repeat (first | refine blk_drewN ?_ _ | refine blk_drew ?_ | refine blk_alloc ?_ _)); exact BK441.out) NB441_0.out (by simp)); replace HK := mk0 (KeepBut.trans (by repeat (first | (with_reducible first | exact HK.out | apply KeepBut.set_ | apply keep_drewN | apply keep_drew | apply keep_alloc | refine keep_far ?_ GW441.out _ | refine keep_far ?_ GW442.out _) | exact HK.out)) hk (.inl rfl)); replace HB := mk0 (hb); replace HI0 := mk0 (hi); clear hb hk hi; obtain ⟨hcz18_0, hcz18_1, hcz18_2, hcz18_3, hfz18_0, hfz18_1, hfz18_2, hfz18_3⟩ := z4 BK441) | ((with_reducible refine gD 18 rfl ?_); refine lt (Kd.int .i64) 3 18 ([0, wrap64 (a1_0 + 1), 1001] : List Int) [.int .i64 0, .int .i64 (wrap64 (a1_0 + 1)), .int .i64 1001] ?_; intro v453 w19 ho20 hb hg_ hnew_; clear hg_ hnew_; (first | rw [← Ny452.out] at ho20 | (simp only [Int.reduceToNat] at ho20; rw [← Ny452.out] at ho20)); replace HO448 := mk0 (Kd.R_below (rr HO448.out) hb); have HO454 := mk0 (Kd.R_lower ho20 (keep_size (w := w) (g := g) (row := none) (by repeat (first | (with_reducible first | exact HK.out | apply KeepBut.set_ | apply keep_drewN | apply keep_drew | apply keep_alloc | refine keep_far ?_ GW441.out _ | refine keep_far ?_ GW442.out _) | exact HK.out)))); replace BK441 := mk0 (blk_below (kb BK441.out) hb); replace BK442 := mk0 (blk_below (kb BK442.out) hb); replace HK := mk0 (KeepBut.trans (by repeat (first | (with_reducible first | exact HK.out | apply KeepBut.set_ | apply keep_drewN | apply keep_drew | apply keep_alloc | refine keep_far ?_ GW441.out _ | refine keep_far ?_ GW442.out _) | exact HK.out)) (KeepBut.of_below hb g none) (.inl rfl)); replace HB := mk0 (below_step (by repeat (first | (with_reducible first | exact HB.out | apply below_alloc | apply pw_below_drewN | apply below_drew1 | refine below_set ?_ (IsS101.ge HI0.out) | refine below_set ?_ GE441.out | refine below_set ?_ GE442.out) | exact HB.out)) hb); replace HI0 := mk0 (IsS101.below (by repeat (first | (with_reducible first | exact HI0.out | apply IsS101.alloc | apply IsS101.drewN | apply IsS101.drew | apply IsS101.set_1 | apply IsS101.set_2 | refine IsS101.far ?_ NB0_441.out _ | refine IsS101.far ?_ NB0_442.out _) | exact HI0.out)) hb); clear hb ho20; obtain ⟨Ao21, co21, eo21⟩ := Kd.R_slice HO454.out; subst eo21) | ((with_reducible refine gC 94 (some 19) rfl rfl ?_); refine gG (some 19) Try.func94 #[.pointer (some ⟨g, 0, none⟩), .slice Ao21 y452.length co21] ?_; refine (spec_l1Int.calls g s0_0 t450 t451 _ _ y452 t455 t456 t457 w0 _ ?side1 ?side2 (cc ((Kd.R_reads' HO454.out).2.2)) ((Kd.R_reads' HO454.out).2.1) ?side5 A6.out).mono ?_; (case side1 => repeat (first | (with_reducible first | exact HI0.out | apply IsS101.alloc | apply IsS101.drewN | apply IsS101.drew | apply IsS101.set_1 | apply IsS101.set_2 | refine IsS101.far ?_ NB0_441.out _ | refine IsS101.far ?_ NB0_442.out _) | exact HI0.out)); (case side2 => repeat (first | (with_reducible first | exact HB.out | apply below_alloc | apply pw_below_drewN | apply below_drew1 | refine below_set ?_ (IsS101.ge HI0.out) | refine below_set ?_ GE441.out | refine below_set ?_ GE442.out) | exact HB.out)); (case side5 => exact far_slice (IsS101.own_ne HI0.out HO454.out (by decide))); rintro e w22 ⟨rfl, hi, hb, hk⟩; refine ⟨_, rfl, ?_⟩; replace BK441 := mk0 (KeepBut.blk hk (g' := gb441) (o := .cells #[.int .i64 a1_0, .string a1_1, .string a1_2, .slice Ao15 y446.length co15] 32 (0, 0)) (kb BK441.out) NB441_0.out (by simp)); replace BK442 := mk0 (KeepBut.blk hk (g' := gb442) (o := .cells #[.int .i64 0, .string (⟨#[]⟩ : ByteArray), .string (⟨#[]⟩ : ByteArray), .slice none 0 0] 32 (0, 0)) (kb BK442.out) NB442_0.out (by simp)); replace HO448 := mk0 (Kd.R_mono (Kd.R_keep (IsS101.apart (show IsS101 w0 _ g s0_0 t450 t451 from by repeat (first | (with_reducible first | exact HI0.out | apply IsS101.alloc | apply IsS101.drewN | apply IsS101.drew | apply IsS101.set_1 | apply IsS101.set_2 | refine IsS101.far ?_ NB0_441.out _ | refine IsS101.far ?_ NB0_442.out _) | exact HI0.out)) (rr HO448.out) (by decide)) hk (fun _ h => h.2)) (fun _ h => h.1)); replace HO454 := mk0 (Kd.R_mono (Kd.R_keep (IsS101.apart (show IsS101 w0 _ g s0_0 t450 t451 from by repeat (first | (with_reducible first | exact HI0.out | apply IsS101.alloc | apply IsS101.drewN | apply IsS101.drew | apply IsS101.set_1 | apply IsS101.set_2 | refine IsS101.far ?_ NB0_441.out _ | refine IsS101.far ?_ NB0_442.out _) | exact HI0.out)) (rr HO454.out) (by decide)) hk (fun _ h => h.2)) (fun _ h => h.1)); replace HK := mk0 (KeepBut.trans (by repeat (first | (with_reducible first | exact HK.out | apply KeepBut.set_ | apply keep_drewN | apply keep_drew | apply keep_alloc | refine keep_far ?_ GW441.out _ | refine keep_far ?_ GW442.out _) | exact HK.out)) hk (.inl rfl)); replace HB := mk0 (hb); replace HI0 := mk0 (hi); clear hb hk hi; obtain ⟨hcz23_0, hcz23_1, hcz23_2, hcz23_3, hfz23_0, hfz23_1, hfz23_2, hfz23_3⟩ := z4 BK441; have hnb24 := NB442_0.out; have hnc24 := NB0_442.out; obtain ⟨hcz25_0, hcz25_1, hcz25_2, hcz25_3, hfz25_0, hfz25_1, hfz25_2, hfz25_3⟩ := z4 BK442))
   refine bodyPost_ret (results_cell_row rfl _ _ gb442 32 #[.int .i64 t455, .string a1_1, .string a1_2, .slice Ao15 y446.length co15] (0, 0) _ rfl (by (with_reducible repeat (first | refine blk_drewN ?_ _ | refine blk_drew ?_ | refine blk_alloc ?_ _)); refine blk_put (cs := #[.int .i64 t455, .string a1_1, .string a1_2, .slice none 0 0]) ?_ 3 _ rfl; (with_reducible repeat (first | refine blk_drewN ?_ _ | refine blk_drew ?_ | refine blk_alloc ?_ _)); refine blk_put (cs := #[.int .i64 t455, .string a1_1, .string (⟨#[]⟩ : ByteArray), .slice none 0 0]) ?_ 2 _ rfl; (with_reducible repeat (first | refine blk_drewN ?_ _ | refine blk_drew ?_ | refine blk_alloc ?_ _)); refine blk_put (cs := #[.int .i64 t455, .string (⟨#[]⟩ : ByteArray), .string (⟨#[]⟩ : ByteArray), .slice none 0 0]) ?_ 1 _ rfl; (with_reducible repeat (first | refine blk_drewN ?_ _ | refine blk_drew ?_ | refine blk_alloc ?_ _)); refine blk_put (cs := #[.int .i64 0, .string (⟨#[]⟩ : ByteArray), .string (⟨#[]⟩ : ByteArray), .slice none 0 0]) ?_ 0 _ rfl; (with_reducible repeat (first | refine blk_drewN ?_ _ | refine blk_drew ?_ | refine blk_alloc ?_ _)); refine blk_far ?_ NB442_441.out _; (with_reducible repeat (first | refine blk_drewN ?_ _ | refine blk_drew ?_ | refine blk_alloc ?_ _)); exact BK442.out) Try.underlying32 rfl (by kernel_rfl)) rfl ?_
   exact ⟨_, sw, by (with_reducible repeat (first | apply Kd.R_alloc | apply Kd.R_drewN | apply Kd.R_drew)); exact Kd.R_mono (Kd.R_far (p := ⟨gb442, 3, none⟩) (Kd.R_far (p := ⟨gb442, 2, none⟩) (Kd.R_far (p := ⟨gb442, 1, none⟩) (Kd.R_far (p := ⟨gb442, 0, none⟩) (Kd.R_far (p := ⟨gb441, 0, none⟩) (Kd.R_types (Kd.R_types HO448.out BK441.out (by decide)) BK442.out (by decide)) (fun _ hk => hk.1.2) (.int .i64 t455)) (fun _ hk => hk.2) (.int .i64 t455)) (fun _ hk => hk.2) (.string a1_1)) (fun _ hk => hk.2) (.string a1_2)) (fun _ hk => hk.2) (.slice Ao15 y446.length co15)) (fun _ hk => trivial), by repeat (first | (with_reducible first | exact HI0.out | apply IsS101.alloc | apply IsS101.drewN | apply IsS101.drew | apply IsS101.set_1 | apply IsS101.set_2 | refine IsS101.far ?_ NB0_441.out _ | refine IsS101.far ?_ NB0_442.out _) | exact HI0.out), by repeat (first | (with_reducible first | exact HB.out | apply below_alloc | apply pw_below_drewN | apply below_drew1 | refine below_set ?_ (IsS101.ge HI0.out) | refine below_set ?_ GE441.out | refine below_set ?_ GE442.out) | exact HB.out), by repeat (first | (with_reducible first | exact HK.out | apply KeepBut.set_ | apply keep_drewN | apply keep_drew | apply keep_alloc | refine keep_far ?_ GW441.out _ | refine keep_far ?_ GW442.out _) | exact HK.out)⟩
 · replace H := iq H; rcases H with ⟨c26b0, c26b1, H⟩ | ⟨c26, c26b0, c26b1, H⟩
   · obtain ⟨y458, Ny458⟩ := nm (([(⟨#[]⟩ : ByteArray), (⟨#[120]⟩ : ByteArray)] : List ByteArray))
     replace H := bd H; obtain ⟨⟨t461, t462, t463⟩, A27, H⟩ := H; rw [← Ny458.out] at A27
     (try dsimp only at H)
     simp only [Option.some.injEq, Prod.mk.injEq] at H
     obtain ⟨rfl, rfl, rfl, rfl, rfl, rfl⟩ := H
     go_enter Try.func72, Try.ntmps72
     go_wp2_with (first | ((with_reducible refine gD 3 rfl ?_); refine bx0 3 #[.int .i64 a1_0, .string a1_1, .string a1_2, .slice A1_3 l1_3.length c1_3] 32 ?_; intro gb441 hg w28 hbox hb; replace HB := mk0 (below_step (by repeat (first | (with_reducible first | exact HB.out | apply below_alloc | apply pw_below_drewN | apply below_drew1 | refine below_set ?_ (IsS101.ge HI0.out)) | exact HB.out)) hb); have BK441 := mk0 (hbox); have GW441 := mk0 ((by rw [hg]; exact (keep_size (w := w) (g := g) (row := none) kk) : w.heap.size ≤ gb441)); have GE441 := mk0 ((Nat.le_trans HW0.out (by rw [hg]; exact (keep_size (w := w) (g := g) (row := none) kk) : w.heap.size ≤ gb441) : w0.heap.size ≤ gb441)); replace HK := mk0 (KeepBut.trans kk (KeepBut.of_below hb g none) (.inl rfl)); have NB0_441 := mk0 ((by rw [hg]; exact Nat.ne_of_lt (IsS101.lt (show IsS101 w0 _ g s0_0 s0_1 s0_2 from by repeat (first | (with_reducible first | exact HI0.out | apply IsS101.alloc | apply IsS101.drewN | apply IsS101.drew | apply IsS101.set_1 | apply IsS101.set_2) | exact HI0.out))) : g ≠ gb441)); have NB441_0 := mk0 ((by rw [hg]; exact Nat.ne_of_gt (IsS101.lt (show IsS101 w0 _ g s0_0 s0_1 s0_2 from by repeat (first | (with_reducible first | exact HI0.out | apply IsS101.alloc | apply IsS101.drewN | apply IsS101.drew | apply IsS101.set_1 | apply IsS101.set_2) | exact HI0.out))) : gb441 ≠ g)); replace HI0 := mk0 (IsS101.below (by repeat (first | (with_reducible first | exact HI0.out | apply IsS101.alloc | apply IsS101.drewN | apply IsS101.drew | apply IsS101.set_1 | apply IsS101.set_2) | exact HI0.out)) hb); clear hb hbox hg) | ((with_reducible refine gD 4 rfl ?_); refine bx0 4 #[.int .i64 0, .string (⟨#[]⟩ : ByteArray), .string (⟨#[]⟩ : ByteArray), .slice none 0 0] 32 ?_; intro gb442 hg w29 hbox hb; replace HB := mk0 (below_step (by repeat (first | (with_reducible first | exact HB.out | apply below_alloc | apply pw_below_drewN | apply below_drew1 | refine below_set ?_ (IsS101.ge HI0.out) | refine below_set ?_ GE441.out) | exact HB.out)) hb); have BK442 := mk0 (hbox); have GW442 := mk0 ((by rw [hg]; exact (keep_size (w := w) (g := g) (row := none) (by repeat (first | (with_reducible first | exact HK.out | apply KeepBut.set_ | apply keep_drewN | apply keep_drew | apply keep_alloc | refine keep_far ?_ GW441.out _) | exact HK.out))) : w.heap.size ≤ gb442)); have GE442 := mk0 ((Nat.le_trans HW0.out (by rw [hg]; exact (keep_size (w := w) (g := g) (row := none) (by repeat (first | (with_reducible first | exact HK.out | apply KeepBut.set_ | apply keep_drewN | apply keep_drew | apply keep_alloc | refine keep_far ?_ GW441.out _) | exact HK.out))) : w.heap.size ≤ gb442) : w0.heap.size ≤ gb442)); replace HK := mk0 (KeepBut.trans (by repeat (first | (with_reducible first | exact HK.out | apply KeepBut.set_ | apply keep_drewN | apply keep_drew | apply keep_alloc | refine keep_far ?_ GW441.out _) | exact HK.out)) (KeepBut.of_below hb g none) (.inl rfl)); have NB441_442 := mk0 ((by rw [hg]; exact Nat.ne_of_lt (blk_lt (g := gb441) (o := .cells #[.int .i64 a1_0, .string a1_1, .string a1_2, .slice A1_3 l1_3.length c1_3] 32 (0, 0)) (kb BK441.out)) : gb441 ≠ gb442)); have NB442_441 := mk0 ((by rw [hg]; exact Nat.ne_of_gt (blk_lt (g := gb441) (o := .cells #[.int .i64 a1_0, .string a1_1, .string a1_2, .slice A1_3 l1_3.length c1_3] 32 (0, 0)) (kb BK441.out)) : gb442 ≠ gb441)); replace BK441 := mk0 (blk_below (kb BK441.out) hb); have NB0_442 := mk0 ((by rw [hg]; exact Nat.ne_of_lt (IsS101.lt (show IsS101 w0 _ g s0_0 s0_1 s0_2 from by repeat (first | (with_reducible first | exact HI0.out | apply IsS101.alloc | apply IsS101.drewN | apply IsS101.drew | apply IsS101.set_1 | apply IsS101.set_2 | refine IsS101.far ?_ NB0_441.out _) | exact HI0.out))) : g ≠ gb442)); have NB442_0 := mk0 ((by rw [hg]; exact Nat.ne_of_gt (IsS101.lt (show IsS101 w0 _ g s0_0 s0_1 s0_2 from by repeat (first | (with_reducible first | exact HI0.out | apply IsS101.alloc | apply IsS101.drewN | apply IsS101.drew | apply IsS101.set_1 | apply IsS101.set_2 | refine IsS101.far ?_ NB0_441.out _) | exact HI0.out))) : gb442 ≠ g)); replace HI0 := mk0 (IsS101.below (by repeat (first | (with_reducible first | exact HI0.out | apply IsS101.alloc | apply IsS101.drewN | apply IsS101.drew | apply IsS101.set_1 | apply IsS101.set_2 | refine IsS101.far ?_ NB0_441.out _) | exact HI0.out)) hb); clear hb hbox hg) | ((with_reducible refine gD 5 rfl ?_); refine lt Kd.string 9 5 ([] : List ByteArray) [] ?_; intro v444 w30 ho31 hb hg_ hnew_; clear hg_ hnew_; (first | rw [← Ny443.out] at ho31 | (simp only [Int.reduceToNat] at ho31; rw [← Ny443.out] at ho31)); have HO445 := mk0 (Kd.R_lower ho31 (keep_size (w := w) (g := g) (row := none) (by repeat (first | (with_reducible first | exact HK.out | apply KeepBut.set_ | apply keep_drewN | apply keep_drew | apply keep_alloc | refine keep_far ?_ GW441.out _ | refine keep_far ?_ GW442.out _) | exact HK.out)))); replace BK441 := mk0 (blk_below (kb BK441.out) hb); replace BK442 := mk0 (blk_below (kb BK442.out) hb); replace HK := mk0 (KeepBut.trans (by repeat (first | (with_reducible first | exact HK.out | apply KeepBut.set_ | apply keep_drewN | apply keep_drew | apply keep_alloc | refine keep_far ?_ GW441.out _ | refine keep_far ?_ GW442.out _) | exact HK.out)) (KeepBut.of_below hb g none) (.inl rfl)); replace HB := mk0 (below_step (by repeat (first | (with_reducible first | exact HB.out | apply below_alloc | apply pw_below_drewN | apply below_drew1 | refine below_set ?_ (IsS101.ge HI0.out) | refine below_set ?_ GE441.out | refine below_set ?_ GE442.out) | exact HB.out)) hb); replace HI0 := mk0 (IsS101.below (by repeat (first | (with_reducible first | exact HI0.out | apply IsS101.alloc | apply IsS101.drewN | apply IsS101.drew | apply IsS101.set_1 | apply IsS101.set_2 | refine IsS101.far ?_ NB0_441.out _ | refine IsS101.far ?_ NB0_442.out _) | exact HI0.out)) hb); clear hb ho31; have hnb32 := NB441_442.out; have hnc32 := NB442_441.out; have hnb33 := NB441_0.out; have hnc33 := NB0_441.out; obtain ⟨hcz34_0, hcz34_1, hcz34_2, hcz34_3, hfz34_0, hfz34_1, hfz34_2, hfz34_3⟩ := z4 BK441) | ((with_reducible refine gate_builtin (b := .append) (xs := #[.tmp 5, .tmp 7]) rfl ?_); at_builtin; refine Kd.R_append_rows Kd.string w.heap.size rfl (.tmp 5) (.tmp 7) 22 9 (.string ⟨#[]⟩) 16 rfl Try.underlying22 info9 rfl (by decide) (by omega) v444 y443 l1_3 _ _ _ (fun _ => True) (fun _ => False) rfl rfl ?aO ?aR (fun _ _ h => h) (fun _ h => h.elim) ?aF (Below.refl _ _) ?aS ?aL ?_; (case aR => exact Kd.C_keep (⟨#[]⟩ : ByteArray) HR1_3.out (by repeat (first | (with_reducible first | exact HK.out | apply KeepBut.set_ | apply keep_drewN | apply keep_drew | apply keep_alloc | refine keep_far ?_ GW441.out _ | refine keep_far ?_ GW442.out _) | exact HK.out)) hf1_3); (case aF => exact (fun _ _ => trivial)); (case aO => exact (rr HO445.out)); (case aS => exact (keep_size (w := w) (g := g) (row := none) (by repeat (first | (with_reducible first | exact HK.out | apply KeepBut.set_ | apply keep_drewN | apply keep_drew | apply keep_alloc | refine keep_far ?_ GW441.out _ | refine keep_far ?_ GW442.out _) | exact HK.out)))); (case aL => have := LMc3.out; omega); intro v447 w35 ho hb hg hat; rw [← Ny446.out] at ho; replace BK441 := mk0 (blk_grown (g := gb441) (o := .cells #[.int .i64 a1_0, .string a1_1, .string a1_2, .slice A1_3 l1_3.length c1_3] 32 (0, 0)) (kb BK441.out) hg (Kd.R_ne HO445.out BK441.out (by decide))); replace BK442 := mk0 (blk_grown (g := gb442) (o := .cells #[.int .i64 0, .string (⟨#[]⟩ : ByteArray), .string (⟨#[]⟩ : ByteArray), .slice none 0 0] 32 (0, 0)) (kb BK442.out) hg (Kd.R_ne HO445.out BK442.out (by decide))); replace HB := mk0 (below_weaken (by repeat (first | (with_reducible first | exact HB.out | apply below_alloc | apply pw_below_drewN | apply below_drew1 | refine below_set ?_ (IsS101.ge HI0.out) | refine below_set ?_ GE441.out | refine below_set ?_ GE442.out) | exact HB.out)) HL.out hb); replace HI0 := mk0 (IsS101.grown (by repeat (first | (with_reducible first | exact HI0.out | apply IsS101.alloc | apply IsS101.drewN | apply IsS101.drew | apply IsS101.set_1 | apply IsS101.set_2 | refine IsS101.far ?_ NB0_441.out _ | refine IsS101.far ?_ NB0_442.out _) | exact HI0.out)) hg (IsS101.own_ne HI0.out HO445.out (by decide))); replace HK := mk0 (KeepBut.trans (by repeat (first | (with_reducible first | exact HK.out | apply KeepBut.set_ | apply keep_drewN | apply keep_drew | apply keep_alloc | refine keep_far ?_ GW441.out _ | refine keep_far ?_ GW442.out _) | exact HK.out)) (KeepBut.of_grown hg g) (Kd.R_base2 HO445.out)); have HO448 := mk0 (ho); clear HO445; clear ho hb hg hat; obtain ⟨Ao36, co36, eo36⟩ := Kd.R_slice HO448.out; subst eo36; obtain ⟨hcz37_0, hcz37_1, hcz37_2, hcz37_3, hfz37_0, hfz37_1, hfz37_2, hfz37_3⟩ := z4 BK441) | ((with_reducible refine gC 71 (some 11) rfl rfl ?_); refine gG (some 11) Try.func71 #[.pointer (some ⟨g, 0, none⟩), .int .i64 5] ?_; refine (spec_l1Below.calls g s0_0 s0_1 s0_2 5 t449 t450 t451 w0 _ ?side1 ?side2 A4.out).mono ?_; (case side1 => repeat (first | (with_reducible first | exact HI0.out | apply IsS101.alloc | apply IsS101.drewN | apply IsS101.drew | apply IsS101.set_1 | apply IsS101.set_2 | refine IsS101.far ?_ NB0_441.out _ | refine IsS101.far ?_ NB0_442.out _) | exact HI0.out)); (case side2 => repeat (first | (with_reducible first | exact HB.out | apply below_alloc | apply pw_below_drewN | apply below_drew1 | refine below_set ?_ (IsS101.ge HI0.out) | refine below_set ?_ GE441.out | refine below_set ?_ GE442.out) | exact HB.out)); rintro e w38 ⟨rfl, hi, hb, hk⟩; refine ⟨_, rfl, ?_⟩; replace BK442 := mk0 (KeepBut.blk hk (g' := gb442) (o := .cells #[.int .i64 0, .string (⟨#[]⟩ : ByteArray), .string (⟨#[]⟩ : ByteArray), .slice none 0 0] 32 (0, 0)) (by (with_reducible repeat (first | refine blk_drewN ?_ _ | refine blk_drew ?_ | refine blk_alloc ?_ _)); refine blk_far ?_ NB442_441.out _; (with_reducible repeat (first | refine blk_drewN ?_ _ | refine blk_drew ?_ | refine blk_alloc ?_ _)); exact BK442.out) NB442_0.out (by simp)); replace HO448 := mk0 (Kd.R_mono (Kd.R_keep (IsS101.apart (show IsS101 w0 _ g s0_0 s0_1 s0_2 from by repeat (first | (with_reducible first | exact HI0.out | apply IsS101.alloc | apply IsS101.drewN | apply IsS101.drew | apply IsS101.set_1 | apply IsS101.set_2 | refine IsS101.far ?_ NB0_441.out _ | refine IsS101.far ?_ NB0_442.out _) | exact HI0.out)) (by (with_reducible repeat (first | apply Kd.R_alloc | apply Kd.R_drewN | apply Kd.R_drew)); exact (Kd.R_mono (Kd.R_far (p := ⟨gb441, 3, none⟩) (Kd.R_types HO448.out BK441.out (by decide)) (fun _ hk => hk.2) (.slice Ao36 y446.length co36)) (fun _ h_ => h_.1))) (by decide)) hk (fun _ h => h.2)) (fun _ h => h.1)); replace BK441 := mk0 (KeepBut.blk hk (g' := gb441) (o := .cells #[.int .i64 a1_0, .string a1_1, .string a1_2, .slice Ao36 y446.length co36] 32 (0, 0)) (by (with_reducible repeat (first | refine blk_drewN ?_ _ | refine blk_drew ?_ | refine blk_alloc ?_ _)); refine blk_put (cs := #[.int .i64 a1_0, .string a1_1, .string a1_2, .slice A1_3 l1_3.length c1_3]) ?_ 3 _ rfl; (with_reducible repeat (first | refine blk_drewN ?_ _ | refine blk_drew ?_ | refine blk_alloc ?_ _)); exact BK441.out) NB441_0.out (by simp)); replace HK := mk0 (KeepBut.trans (by repeat (first | (with_reducible first | exact HK.out | apply KeepBut.set_ | apply keep_drewN | apply keep_drew | apply keep_alloc | refine keep_far ?_ GW441.out _ | refine keep_far ?_ GW442.out _) | exact HK.out)) hk (.inl rfl)); replace HB := mk0 (hb); replace HI0 := mk0 (hi); clear hb hk hi) | ((with_reducible refine gD 24 rfl ?_); refine lt Kd.string 9 24 ([(⟨#[]⟩ : ByteArray), (⟨#[120]⟩ : ByteArray)] : List ByteArray) [.string (⟨#[]⟩ : ByteArray), .string (⟨#[120]⟩ : ByteArray)] ?_; intro v459 w39 ho40 hb hg_ hnew_; clear hg_ hnew_; (first | rw [← Ny458.out] at ho40 | (simp only [Int.reduceToNat] at ho40; rw [← Ny458.out] at ho40)); have HO460 := mk0 (Kd.R_lower (Kd.R_new' ho40 (Kd.R_lt (rr HO448.out))) (keep_size (w := w) (g := g) (row := none) (by repeat (first | (with_reducible first | exact HK.out | apply KeepBut.set_ | apply keep_drewN | apply keep_drew | apply keep_alloc | refine keep_far ?_ GW441.out _ | refine keep_far ?_ GW442.out _) | exact HK.out)))); replace HO448 := mk0 (Kd.R_elder' (rr HO448.out) (Kd.R_base ho40) hb); replace BK441 := mk0 (blk_below (kb BK441.out) hb); replace BK442 := mk0 (blk_below (kb BK442.out) hb); replace HK := mk0 (KeepBut.trans (by repeat (first | (with_reducible first | exact HK.out | apply KeepBut.set_ | apply keep_drewN | apply keep_drew | apply keep_alloc | refine keep_far ?_ GW441.out _ | refine keep_far ?_ GW442.out _) | exact HK.out)) (KeepBut.of_below hb g none) (.inl rfl)); replace HB := mk0 (below_step (by repeat (first | (with_reducible first | exact HB.out | apply below_alloc | apply pw_below_drewN | apply below_drew1 | refine below_set ?_ (IsS101.ge HI0.out) | refine below_set ?_ GE441.out | refine below_set ?_ GE442.out) | exact HB.out)) hb); replace HI0 := mk0 (IsS101.below (by repeat (first | (with_reducible first | exact HI0.out | apply IsS101.alloc | apply IsS101.drewN | apply IsS101.drew | apply IsS101.set_1 | apply IsS101.set_2 | refine IsS101.far ?_ NB0_441.out _ | refine IsS101.far ?_ NB0_442.out _) | exact HI0.out)) hb); clear hb ho40; obtain ⟨Ao41, co41, eo41⟩ := Kd.R_slice HO460.out; subst eo41) | ((with_reducible refine gC 95 (some 25) rfl rfl ?_); refine gG (some 25) Try.func95 #[.pointer (some ⟨g, 0, none⟩), .slice Ao41 y458.length co41] ?_; refine (spec_l1Str.calls g s0_0 t450 t451 _ _ y458 t461 t462 t463 w0 _ ?side1 ?side2 (cc ((Kd.R_reads' HO460.out).2.2)) ((Kd.R_reads' HO460.out).2.1) ?side5 A27.out).mono ?_; (case side1 => repeat (first | (with_reducible first | exact HI0.out | apply IsS101.alloc | apply IsS101.drewN | apply IsS101.drew | apply IsS101.set_1 | apply IsS101.set_2 | refine IsS101.far ?_ NB0_441.out _ | refine IsS101.far ?_ NB0_442.out _) | exact HI0.out)); (case side2 => repeat (first | (with_reducible first | exact HB.out | apply below_alloc | apply pw_below_drewN | apply below_drew1 | refine below_set ?_ (IsS101.ge HI0.out) | refine below_set ?_ GE441.out | refine below_set ?_ GE442.out) | exact HB.out)); (case side5 => exact far_slice (IsS101.own_ne HI0.out HO460.out (by decide))); rintro e w42 ⟨rfl, hi, hb, hk⟩; refine ⟨_, rfl, ?_⟩; replace BK441 := mk0 (KeepBut.blk hk (g' := gb441) (o := .cells #[.int .i64 a1_0, .string a1_1, .string a1_2, .slice Ao36 y446.length co36] 32 (0, 0)) (kb BK441.out) NB441_0.out (by simp)); replace BK442 := mk0 (KeepBut.blk hk (g' := gb442) (o := .cells #[.int .i64 0, .string (⟨#[]⟩ : ByteArray), .string (⟨#[]⟩ : ByteArray), .slice none 0 0] 32 (0, 0)) (kb BK442.out) NB442_0.out (by simp)); replace HO448 := mk0 (Kd.R_mono (Kd.R_keep (IsS101.apart (show IsS101 w0 _ g s0_0 t450 t451 from by repeat (first | (with_reducible first | exact HI0.out | apply IsS101.alloc | apply IsS101.drewN | apply IsS101.drew | apply IsS101.set_1 | apply IsS101.set_2 | refine IsS101.far ?_ NB0_441.out _ | refine IsS101.far ?_ NB0_442.out _) | exact HI0.out)) (rr HO448.out) (by decide)) hk (fun _ h => h.2)) (fun _ h => h.1)); replace HO460 := mk0 (Kd.R_mono (Kd.R_keep (IsS101.apart (show IsS101 w0 _ g s0_0 t450 t451 from by repeat (first | (with_reducible first | exact HI0.out | apply IsS101.alloc | apply IsS101.drewN | apply IsS101.drew | apply IsS101.set_1 | apply IsS101.set_2 | refine IsS101.far ?_ NB0_441.out _ | refine IsS101.far ?_ NB0_442.out _) | exact HI0.out)) (rr HO460.out) (by decide)) hk (fun _ h => h.2)) (fun _ h => h.1)); replace HK := mk0 (KeepBut.trans (by repeat (first | (with_reducible first | exact HK.out | apply KeepBut.set_ | apply keep_drewN | apply keep_drew | apply keep_alloc | refine keep_far ?_ GW441.out _ | refine keep_far ?_ GW442.out _) | exact HK.out)) hk (.inl rfl)); replace HB := mk0 (hb); replace HI0 := mk0 (hi); clear hb hk hi; obtain ⟨hcz43_0, hcz43_1, hcz43_2, hcz43_3, hfz43_0, hfz43_1, hfz43_2, hfz43_3⟩ := z4 BK441; have hnb44 := NB442_0.out; have hnc44 := NB0_442.out; obtain ⟨hcz45_0, hcz45_1, hcz45_2, hcz45_3, hfz45_0, hfz45_1, hfz45_2, hfz45_3⟩ := z4 BK442))
     refine bodyPost_ret (results_cell_row rfl _ _ gb442 32 #[.int .i64 a1_0, .string t461, .string a1_2, .slice Ao36 y446.length co36] (0, 0) _ rfl (by (with_reducible repeat (first | refine blk_drewN ?_ _ | refine blk_drew ?_ | refine blk_alloc ?_ _)); refine blk_put (cs := #[.int .i64 a1_0, .string t461, .string a1_2, .slice none 0 0]) ?_ 3 _ rfl; (with_reducible repeat (first | refine blk_drewN ?_ _ | refine blk_drew ?_ | refine blk_alloc ?_ _)); refine blk_put (cs := #[.int .i64 a1_0, .string t461, .string (⟨#[]⟩ : ByteArray), .slice none 0 0]) ?_ 2 _ rfl; (with_reducible repeat (first | refine blk_drewN ?_ _ | refine blk_drew ?_ | refine blk_alloc ?_ _)); refine blk_put (cs := #[.int .i64 a1_0, .string (⟨#[]⟩ : ByteArray), .string (⟨#[]⟩ : ByteArray), .slice none 0 0]) ?_ 1 _ rfl; (with_reducible repeat (first | refine blk_drewN ?_ _ | refine blk_drew ?_ | refine blk_alloc ?_ _)); refine blk_put (cs := #[.int .i64 0, .string (⟨#[]⟩ : ByteArray), .string (⟨#[]⟩ : ByteArray), .slice none 0 0]) ?_ 0 _ rfl; (with_reducible repeat (first | refine blk_drewN ?_ _ | refine blk_drew ?_ | refine blk_alloc ?_ _)); refine blk_far ?_ NB442_441.out _; (with_reducible repeat (first | refine blk_drewN ?_ _ | refine blk_drew ?_ | refine blk_alloc ?_ _)); exact BK442.out) Try.underlying32 rfl (by kernel_rfl)) rfl ?_
     exact ⟨_, sw, by (with_reducible repeat (first | apply Kd.R_alloc | apply Kd.R_drewN | apply Kd.R_drew)); exact Kd.R_mono (Kd.R_far (p := ⟨gb442, 3, none⟩) (Kd.R_far (p := ⟨gb442, 2, none⟩) (Kd.R_far (p := ⟨gb442, 1, none⟩) (Kd.R_far (p := ⟨gb442, 0, none⟩) (Kd.R_far (p := ⟨gb441, 1, none⟩) (Kd.R_types (Kd.R_types HO448.out BK441.out (by decide)) BK442.out (by decide)) (fun _ hk => hk.1.2) (.string t461)) (fun _ hk => hk.2) (.int .i64 a1_0)) (fun _ hk => hk.2) (.string t461)) (fun _ hk => hk.2) (.string a1_2)) (fun _ hk => hk.2) (.slice Ao36 y446.length co36)) (fun _ hk => trivial), by repeat (first | (with_reducible first | exact HI0.out | apply IsS101.alloc | apply IsS101.drewN | apply IsS101.drew | apply IsS101.set_1 | apply IsS101.set_2 | refine IsS101.far ?_ NB0_441.out _ | refine IsS101.far ?_ NB0_442.out _) | exact HI0.out), by repeat (first | (with_reducible first | exact HB.out | apply below_alloc | apply pw_below_drewN | apply below_drew1 | refine below_set ?_ (IsS101.ge HI0.out) | refine below_set ?_ GE441.out | refine below_set ?_ GE442.out) | exact HB.out), by repeat (first | (with_reducible first | exact HK.out | apply KeepBut.set_ | apply keep_drewN | apply keep_drew | apply keep_alloc | refine keep_far ?_ GW441.out _ | refine keep_far ?_ GW442.out _) | exact HK.out)⟩
   · replace H := iq H; rcases H with ⟨c46b0, c46b1, H⟩ | ⟨c46, c46b0, c46b1, H⟩
     · obtain ⟨y464, Ny464⟩ := nm (([9] : List Int))
       replace H := bd H; obtain ⟨t467, A47, H⟩ := H; rw [← Ny464.out] at A47
       simp only [Option.some.injEq, Prod.mk.injEq] at H
       obtain ⟨rfl, rfl, rfl, rfl, rfl, rfl⟩ := H
       go_enter Try.func72, Try.ntmps72
       go_wp2_with (first | ((with_reducible refine gD 3 rfl ?_); refine bx0 3 #[.int .i64 a1_0, .string a1_1, .string a1_2, .slice A1_3 l1_3.length c1_3] 32 ?_; intro gb441 hg w48 hbox hb; replace HB := mk0 (below_step (by repeat (first | (with_reducible first | exact HB.out | apply below_alloc | apply pw_below_drewN | apply below_drew1 | refine below_set ?_ (IsS101.ge HI0.out)) | exact HB.out)) hb); have BK441 := mk0 (hbox); have GW441 := mk0 ((by rw [hg]; exact (keep_size (w := w) (g := g) (row := none) kk) : w.heap.size ≤ gb441)); have GE441 := mk0 ((Nat.le_trans HW0.out (by rw [hg]; exact (keep_size (w := w) (g := g) (row := none) kk) : w.heap.size ≤ gb441) : w0.heap.size ≤ gb441)); replace HK := mk0 (KeepBut.trans kk (KeepBut.of_below hb g none) (.inl rfl)); have NB0_441 := mk0 ((by rw [hg]; exact Nat.ne_of_lt (IsS101.lt (show IsS101 w0 _ g s0_0 s0_1 s0_2 from by repeat (first | (with_reducible first | exact HI0.out | apply IsS101.alloc | apply IsS101.drewN | apply IsS101.drew | apply IsS101.set_1 | apply IsS101.set_2) | exact HI0.out))) : g ≠ gb441)); have NB441_0 := mk0 ((by rw [hg]; exact Nat.ne_of_gt (IsS101.lt (show IsS101 w0 _ g s0_0 s0_1 s0_2 from by repeat (first | (with_reducible first | exact HI0.out | apply IsS101.alloc | apply IsS101.drewN | apply IsS101.drew | apply IsS101.set_1 | apply IsS101.set_2) | exact HI0.out))) : gb441 ≠ g)); replace HI0 := mk0 (IsS101.below (by repeat (first | (with_reducible first | exact HI0.out | apply IsS101.alloc | apply IsS101.drewN | apply IsS101.drew | apply IsS101.set_1 | apply IsS101.set_2) | exact HI0.out)) hb); clear hb hbox hg) | ((with_reducible refine gD 4 rfl ?_); refine bx0 4 #[.int .i64 0, .string (⟨#[]⟩ : ByteArray), .string (⟨#[]⟩ : ByteArray), .slice none 0 0] 32 ?_; intro gb442 hg w49 hbox hb; replace HB := mk0 (below_step (by repeat (first | (with_reducible first | exact HB.out | apply below_alloc | apply pw_below_drewN | apply below_drew1 | refine below_set ?_ (IsS101.ge HI0.out) | refine below_set ?_ GE441.out) | exact HB.out)) hb); have BK442 := mk0 (hbox); have GW442 := mk0 ((by rw [hg]; exact (keep_size (w := w) (g := g) (row := none) (by repeat (first | (with_reducible first | exact HK.out | apply KeepBut.set_ | apply keep_drewN | apply keep_drew | apply keep_alloc | refine keep_far ?_ GW441.out _) | exact HK.out))) : w.heap.size ≤ gb442)); have GE442 := mk0 ((Nat.le_trans HW0.out (by rw [hg]; exact (keep_size (w := w) (g := g) (row := none) (by repeat (first | (with_reducible first | exact HK.out | apply KeepBut.set_ | apply keep_drewN | apply keep_drew | apply keep_alloc | refine keep_far ?_ GW441.out _) | exact HK.out))) : w.heap.size ≤ gb442) : w0.heap.size ≤ gb442)); replace HK := mk0 (KeepBut.trans (by repeat (first | (with_reducible first | exact HK.out | apply KeepBut.set_ | apply keep_drewN | apply keep_drew | apply keep_alloc | refine keep_far ?_ GW441.out _) | exact HK.out)) (KeepBut.of_below hb g none) (.inl rfl)); have NB441_442 := mk0 ((by rw [hg]; exact Nat.ne_of_lt (blk_lt (g := gb441) (o := .cells #[.int .i64 a1_0, .string a1_1, .string a1_2, .slice A1_3 l1_3.length c1_3] 32 (0, 0)) (kb BK441.out)) : gb441 ≠ gb442)); have NB442_441 := mk0 ((by rw [hg]; exact Nat.ne_of_gt (blk_lt (g := gb441) (o := .cells #[.int .i64 a1_0, .string a1_1, .string a1_2, .slice A1_3 l1_3.length c1_3] 32 (0, 0)) (kb BK441.out)) : gb442 ≠ gb441)); replace BK441 := mk0 (blk_below (kb BK441.out) hb); have NB0_442 := mk0 ((by rw [hg]; exact Nat.ne_of_lt (IsS101.lt (show IsS101 w0 _ g s0_0 s0_1 s0_2 from by repeat (first | (with_reducible first | exact HI0.out | apply IsS101.alloc | apply IsS101.drewN | apply IsS101.drew | apply IsS101.set_1 | apply IsS101.set_2 | refine IsS101.far ?_ NB0_441.out _) | exact HI0.out))) : g ≠ gb442)); have NB442_0 := mk0 ((by rw [hg]; exact Nat.ne_of_gt (IsS101.lt (show IsS101 w0 _ g s0_0 s0_1 s0_2 from by repeat (first | (with_reducible first | exact HI0.out | apply IsS101.alloc | apply IsS101.drewN | apply IsS101.drew | apply IsS101.set_1 | apply IsS101.set_2 | refine IsS101.far ?_ NB0_441.out _) | exact HI0.out))) : gb442 ≠ g)); replace HI0 := mk0 (IsS101.below (by repeat (first | (with_reducible first | exact HI0.out | apply IsS101.alloc | apply IsS101.drewN | apply IsS101.drew | apply IsS101.set_1 | apply IsS101.set_2 | refine IsS101.far ?_ NB0_441.out _) | exact HI0.out)) hb); clear hb hbox hg) | ((with_reducible refine gD 5 rfl ?_); refine lt Kd.string 9 5 ([] : List ByteArray) [] ?_; intro v444 w50 ho51 hb hg_ hnew_; clear hg_ hnew_; (first | rw [← Ny443.out] at ho51 | (simp only [Int.reduceToNat] at ho51; rw [← Ny443.out] at ho51)); have HO445 := mk0 (Kd.R_lower ho51 (keep_size (w := w) (g := g) (row := none) (by repeat (first | (with_reducible first | exact HK.out | apply KeepBut.set_ | apply keep_drewN | apply keep_drew | apply keep_alloc | refine keep_far ?_ GW441.out _ | refine keep_far ?_ GW442.out _) | exact HK.out)))); replace BK441 := mk0 (blk_below (kb BK441.out) hb); replace BK442 := mk0 (blk_below (kb BK442.out) hb); replace HK := mk0 (KeepBut.trans (by repeat (first | (with_reducible first | exact HK.out | apply KeepBut.set_ | apply keep_drewN | apply keep_drew | apply keep_alloc | refine keep_far ?_ GW441.out _ | refine keep_far ?_ GW442.out _) | exact HK.out)) (KeepBut.of_below hb g none) (.inl rfl)); replace HB := mk0 (below_step (by repeat (first | (with_reducible first | exact HB.out | apply below_alloc | apply pw_below_drewN | apply below_drew1 | refine below_set ?_ (IsS101.ge HI0.out) | refine below_set ?_ GE441.out | refine below_set ?_ GE442.out) | exact HB.out)) hb); replace HI0 := mk0 (IsS101.below (by repeat (first | (with_reducible first | exact HI0.out | apply IsS101.alloc | apply IsS101.drewN | apply IsS101.drew | apply IsS101.set_1 | apply IsS101.set_2 | refine IsS101.far ?_ NB0_441.out _ | refine IsS101.far ?_ NB0_442.out _) | exact HI0.out)) hb); clear hb ho51; have hnb52 := NB441_442.out; have hnc52 := NB442_441.out; have hnb53 := NB441_0.out; have hnc53 := NB0_441.out; obtain ⟨hcz54_0, hcz54_1, hcz54_2, hcz54_3, hfz54_0, hfz54_1, hfz54_2, hfz54_3⟩ := z4 BK441) | ((with_reducible refine gate_builtin (b := .append) (xs := #[.tmp 5, .tmp 7]) rfl ?_); at_builtin; refine Kd.R_append_rows Kd.string w.heap.size rfl (.tmp 5) (.tmp 7) 22 9 (.string ⟨#[]⟩) 16 rfl Try.underlying22 info9 rfl (by decide) (by omega) v444 y443 l1_3 _ _ _ (fun _ => True) (fun _ => False) rfl rfl ?aO ?aR (fun _ _ h => h) (fun _ h => h.elim) ?aF (Below.refl _ _) ?aS ?aL ?_; (case aR => exact Kd.C_keep (⟨#[]⟩ : ByteArray) HR1_3.out (by repeat (first | (with_reducible first | exact HK.out | apply KeepBut.set_ | apply keep_drewN | apply keep_drew | apply keep_alloc | refine keep_far ?_ GW441.out _ | refine keep_far ?_ GW442.out _) | exact HK.out)) hf1_3); (case aF => exact (fun _ _ => trivial)); (case aO => exact (rr HO445.out)); (case aS => exact (keep_size (w := w) (g := g) (row := none) (by repeat (first | (with_reducible first | exact HK.out | apply KeepBut.set_ | apply keep_drewN | apply keep_drew | apply keep_alloc | refine keep_far ?_ GW441.out _ | refine keep_far ?_ GW442.out _) | exact HK.out)))); (case aL => have := LMc3.out; omega); intro v447 w55 ho hb hg hat; rw [← Ny446.out] at ho; replace BK441 := mk0 (blk_grown (g := gb441) (o := .cells #[.int .i64 a1_0, .string a1_1, .string a1_2, .slice A1_3 l1_3.length c1_3] 32 (0, 0)) (kb BK441.out) hg (Kd.R_ne HO445.out BK441.out (by decide))); replace BK442 := mk0 (blk_grown (g := gb442) (o := .cells #[.int .i64 0, .string (⟨#[]⟩ : ByteArray), .string (⟨#[]⟩ : ByteArray), .slice none 0 0] 32 (0, 0)) (kb BK442.out) hg (Kd.R_ne HO445.out BK442.out (by decide))); replace HB := mk0 (below_weaken (by repeat (first | (with_reducible first | exact HB.out | apply below_alloc | apply pw_below_drewN | apply below_drew1 | refine below_set ?_ (IsS101.ge HI0.out) | refine below_set ?_ GE441.out | refine below_set ?_ GE442.out) | exact HB.out)) HL.out hb); replace HI0 := mk0 (IsS101.grown (by repeat (first | (with_reducible first | exact HI0.out | apply IsS101.alloc | apply IsS101.drewN | apply IsS101.drew | apply IsS101.set_1 | apply IsS101.set_2 | refine IsS101.far ?_ NB0_441.out _ | refine IsS101.far ?_ NB0_442.out _) | exact HI0.out)) hg (IsS101.own_ne HI0.out HO445.out (by decide))); replace HK := mk0 (KeepBut.trans (by repeat (first | (with_reducible first | exact HK.out | apply KeepBut.set_ | apply keep_drewN | apply keep_drew | apply keep_alloc | refine keep_far ?_ GW441.out _ | refine keep_far ?_ GW442.out _) | exact HK.out)) (KeepBut.of_grown hg g) (Kd.R_base2 HO445.out)); have HO448 := mk0 (ho); clear HO445; clear ho hb hg hat; obtain ⟨Ao56, co56, eo56⟩ := Kd.R_slice HO448.out; subst eo56; obtain ⟨hcz57_0, hcz57_1, hcz57_2, hcz57_3, hfz57_0, hfz57_1, hfz57_2, hfz57_3⟩ := z4 BK441) | ((with_reducible refine gC 71 (some 11) rfl rfl ?_); refine gG (some 11) Try.func71 #[.pointer (some ⟨g, 0, none⟩), .int .i64 5] ?_; refine (spec_l1Below.calls g s0_0 s0_1 s0_2 5 t449 t450 t451 w0 _ ?side1 ?side2 A4.out).mono ?_; (case side1 => repeat (first | (with_reducible first | exact HI0.out | apply IsS101.alloc | apply IsS101.drewN | apply IsS101.drew | apply IsS101.set_1 | apply IsS101.set_2 | refine IsS101.far ?_ NB0_441.out _ | refine IsS101.far ?_ NB0_442.out _) | exact HI0.out)); (case side2 => repeat (first | (with_reducible first | exact HB.out | apply below_alloc | apply pw_below_drewN | apply below_drew1 | refine below_set ?_ (IsS101.ge HI0.out) | refine below_set ?_ GE441.out | refine below_set ?_ GE442.out) | exact HB.out)); rintro e w58 ⟨rfl, hi, hb, hk⟩; refine ⟨_, rfl, ?_⟩; replace BK442 := mk0 (KeepBut.blk hk (g' := gb442) (o := .cells #[.int .i64 0, .string (⟨#[]⟩ : ByteArray), .string (⟨#[]⟩ : ByteArray), .slice none 0 0] 32 (0, 0)) (by (with_reducible repeat (first | refine blk_drewN ?_ _ | refine blk_drew ?_ | refine blk_alloc ?_ _)); refine blk_far ?_ NB442_441.out _; (with_reducible repeat (first | refine blk_drewN ?_ _ | refine blk_drew ?_ | refine blk_alloc ?_ _)); exact BK442.out) NB442_0.out (by simp)); replace HO448 := mk0 (Kd.R_mono (Kd.R_keep (IsS101.apart (show IsS101 w0 _ g s0_0 s0_1 s0_2 from by repeat (first | (with_reducible first | exact HI0.out | apply IsS101.alloc | apply IsS101.drewN | apply IsS101.drew | apply IsS101.set_1 | apply IsS101.set_2 | refine IsS101.far ?_ NB0_441.out _ | refine IsS101.far ?_ NB0_442.out _) | exact HI0.out)) (by (with_reducible repeat (first | apply Kd.R_alloc | apply Kd.R_drewN | apply Kd.R_drew)); exact (Kd.R_mono (Kd.R_far (p := ⟨gb441, 3, none⟩) (Kd.R_types HO448.out BK441.out (by decide)) (fun _ hk => hk.2) (.slice Ao56 y446.length co56)) (fun _ h_ => h_.1))) (by decide)) hk (fun _ h => h.2)) (fun _ h => h.1)); replace BK441 := mk0 (KeepBut.blk hk (g' := gb441) (o := .cells #[.int .i64 a1_0, .string a1_1, .string a1_2, .slice Ao56 y446.length co56] 32 (0, 0)) (by (with_reducible repeat (first | refine blk_drewN ?_ _ | refine blk_drew ?_ | refine blk_alloc ?_ _)); refine blk_put (cs := #[.int .i64 a1_0, .string a1_1, .string a1_2, .slice A1_3 l1_3.length c1_3]) ?_ 3 _ rfl; (with_reducible repeat (first | refine blk_drewN ?_ _ | refine blk_drew ?_ | refine blk_alloc ?_ _)); exact BK441.out) NB441_0.out (by simp)); replace HK := mk0 (KeepBut.trans (by repeat (first | (with_reducible first | exact HK.out | apply KeepBut.set_ | apply keep_drewN | apply keep_drew | apply keep_alloc | refine keep_far ?_ GW441.out _ | refine keep_far ?_ GW442.out _) | exact HK.out)) hk (.inl rfl)); replace HB := mk0 (hb); replace HI0 := mk0 (hi); clear hb hk hi) | ((with_reducible refine gD 29 rfl ?_); refine lt (Kd.int .u8) 5 29 ([9] : List Int) [.int .u8 9] ?_; intro v465 w59 ho60 hb hg_ hnew_; clear hg_ hnew_; (first | rw [← Ny464.out] at ho60 | (simp only [Int.reduceToNat] at ho60; rw [← Ny464.out] at ho60)); replace HO448 := mk0 (Kd.R_below (rr HO448.out) hb); have HO466 := mk0 (Kd.R_lower ho60 (keep_size (w := w) (g := g) (row := none) (by repeat (first | (with_reducible first | exact HK.out | apply KeepBut.set_ | apply keep_drewN | apply keep_drew | apply keep_alloc | refine keep_far ?_ GW441.out _ | refine keep_far ?_ GW442.out _) | exact HK.out)))); replace BK441 := mk0 (blk_below (kb BK441.out) hb); replace BK442 := mk0 (blk_below (kb BK442.out) hb); replace HK := mk0 (KeepBut.trans (by repeat (first | (with_reducible first | exact HK.out | apply KeepBut.set_ | apply keep_drewN | apply keep_drew | apply keep_alloc | refine keep_far ?_ GW441.out _ | refine keep_far ?_ GW442.out _) | exact HK.out)) (KeepBut.of_below hb g none) (.inl rfl)); replace HB := mk0 (below_step (by repeat (first | (with_reducible first | exact HB.out | apply below_alloc | apply pw_below_drewN | apply below_drew1 | refine below_set ?_ (IsS101.ge HI0.out) | refine below_set ?_ GE441.out | refine below_set ?_ GE442.out) | exact HB.out)) hb); replace HI0 := mk0 (IsS101.below (by repeat (first | (with_reducible first | exact HI0.out | apply IsS101.alloc | apply IsS101.drewN | apply IsS101.drew | apply IsS101.set_1 | apply IsS101.set_2 | refine IsS101.far ?_ NB0_441.out _ | refine IsS101.far ?_ NB0_442.out _) | exact HI0.out)) hb); clear hb ho60; obtain ⟨Ao61, co61, eo61⟩ := Kd.R_slice HO466.out; subst eo61) | ((with_reducible refine gC 35 (some 30) rfl rfl ?_); refine gB (some 30) Try.func35 #[.slice Ao61 y464.length co61] (spec_Digest.calls k _ _ y464 t467 _ (cc ((Kd.R_reads' HO466.out).2.2)) ((Kd.R_reads' HO466.out).2.1) A47.out) ?_; intro w62 hb; replace HO448 := mk0 (Kd.R_below (rr HO448.out) hb); replace HO466 := mk0 (Kd.R_below (rr HO466.out) hb); replace BK441 := mk0 (blk_below (kb BK441.out) hb); replace BK442 := mk0 (blk_below (kb BK442.out) hb); replace HK := mk0 (KeepBut.trans (by repeat (first | (with_reducible first | exact HK.out | apply KeepBut.set_ | apply keep_drewN | apply keep_drew | apply keep_alloc | refine keep_far ?_ GW441.out _ | refine keep_far ?_ GW442.out _) | exact HK.out)) (KeepBut.of_below hb g none) (.inl rfl)); replace HB := mk0 (below_step (by repeat (first | (with_reducible first | exact HB.out | apply below_alloc | apply pw_below_drewN | apply below_drew1 | refine below_set ?_ (IsS101.ge HI0.out) | refine below_set ?_ GE441.out | refine below_set ?_ GE442.out) | exact HB.out)) hb); replace HI0 := mk0 (IsS101.below (by repeat (first | (with_reducible first | exact HI0.out | apply IsS101.alloc | apply IsS101.drewN | apply IsS101.drew | apply IsS101.set_1 | apply IsS101.set_2 | refine IsS101.far ?_ NB0_441.out _ | refine IsS101.far ?_ NB0_442.out _) | exact HI0.out)) hb); clear hb; obtain ⟨hcz63_0, hcz63_1, hcz63_2, hcz63_3, hfz63_0, hfz63_1, hfz63_2, hfz63_3⟩ := z4 BK441; have hnb64 := NB442_0.out; have hnc64 := NB0_442.out; obtain ⟨hcz65_0, hcz65_1, hcz65_2, hcz65_3, hfz65_0, hfz65_1, hfz65_2, hfz65_3⟩ := z4 BK442))
       refine bodyPost_ret (results_cell_row rfl _ _ gb442 32 #[.int .i64 a1_0, .string a1_1, .string t467, .slice Ao56 y446.length co56] (0, 0) _ rfl (by (with_reducible repeat (first | refine blk_drewN ?_ _ | refine blk_drew ?_ | refine blk_alloc ?_ _)); refine blk_put (cs := #[.int .i64 a1_0, .string a1_1, .string t467, .slice none 0 0]) ?_ 3 _ rfl; (with_reducible repeat (first | refine blk_drewN ?_ _ | refine blk_drew ?_ | refine blk_alloc ?_ _)); refine blk_put (cs := #[.int .i64 a1_0, .string a1_1, .string (⟨#[]⟩ : ByteArray), .slice none 0 0]) ?_ 2 _ rfl; (with_reducible repeat (first | refine blk_drewN ?_ _ | refine blk_drew ?_ | refine blk_alloc ?_ _)); refine blk_put (cs := #[.int .i64 a1_0, .string (⟨#[]⟩ : ByteArray), .string (⟨#[]⟩ : ByteArray), .slice none 0 0]) ?_ 1 _ rfl; (with_reducible repeat (first | refine blk_drewN ?_ _ | refine blk_drew ?_ | refine blk_alloc ?_ _)); refine blk_put (cs := #[.int .i64 0, .string (⟨#[]⟩ : ByteArray), .string (⟨#[]⟩ : ByteArray), .slice none 0 0]) ?_ 0 _ rfl; (with_reducible repeat (first | refine blk_drewN ?_ _ | refine blk_drew ?_ | refine blk_alloc ?_ _)); refine blk_far ?_ NB442_441.out _; (with_reducible repeat (first | refine blk_drewN ?_ _ | refine blk_drew ?_ | refine blk_alloc ?_ _)); exact BK442.out) Try.underlying32 rfl (by kernel_rfl)) rfl ?_
       exact ⟨_, sw, by (with_reducible repeat (first | apply Kd.R_alloc | apply Kd.R_drewN | apply Kd.R_drew)); exact Kd.R_mono (Kd.R_far (p := ⟨gb442, 3, none⟩) (Kd.R_far (p := ⟨gb442, 2, none⟩) (Kd.R_far (p := ⟨gb442, 1, none⟩) (Kd.R_far (p := ⟨gb442, 0, none⟩) (Kd.R_far (p := ⟨gb441, 2, none⟩) (Kd.R_types (Kd.R_types HO448.out BK441.out (by decide)) BK442.out (by decide)) (fun _ hk => hk.1.2) (.string t467)) (fun _ hk => hk.2) (.int .i64 a1_0)) (fun _ hk => hk.2) (.string a1_1)) (fun _ hk => hk.2) (.string t467)) (fun _ hk => hk.2) (.slice Ao56 y446.length co56)) (fun _ hk => trivial), by repeat (first | (with_reducible first | exact HI0.out | apply IsS101.alloc | apply IsS101.drewN | apply IsS101.drew | apply IsS101.set_1 | apply IsS101.set_2 | refine IsS101.far ?_ NB0_441.out _ | refine IsS101.far ?_ NB0_442.out _) | exact HI0.out), by repeat (first | (with_reducible first | exact HB.out | apply below_alloc | apply pw_below_drewN | apply below_drew1 | refine below_set ?_ (IsS101.ge HI0.out) | refine below_set ?_ GE441.out | refine below_set ?_ GE442.out) | exact HB.out), by repeat (first | (with_reducible first | exact HK.out | apply KeepBut.set_ | apply keep_drewN | apply keep_drew | apply keep_alloc | refine keep_far ?_ GW441.out _ | refine keep_far ?_ GW442.out _) | exact HK.out)⟩
     · replace H := iq H; rcases H with ⟨c66b0, c66b1, H⟩ | ⟨c66, c66b0, c66b1, H⟩
       · obtain ⟨y468, Ny468⟩ := nm (([1] : List Int))
         replace H := bd H; obtain ⟨t471, A67, H⟩ := H; rw [← Ny468.out] at A67
         obtain ⟨y472, Ny472⟩ := nm (([(⟨#[]⟩ : ByteArray), t471] : List ByteArray))
         replace H := bd H; obtain ⟨⟨t475, t476, t477⟩, A68, H⟩ := H; rw [← Ny472.out] at A68
         (try dsimp only at H)
         replace H := gl H; obtain ⟨LMc69, H⟩ := H
         obtain ⟨y478, Ny478⟩ := nm (y446 ++ [t475])
         rw [← Ny478.out] at H
         simp only [Option.some.injEq, Prod.mk.injEq] at H
         obtain ⟨rfl, rfl, rfl, rfl, rfl, rfl⟩ := H
         go_enter Try.func72, Try.ntmps72
         try go_wp2_with (first | ((with_reducible refine gD 3 rfl ?_); refine bx0 3 #[.int .i64 a1_0, .string a1_1, .string a1_2, .slice A1_3 l1_3.length c1_3] 32 ?_; intro gb441 hg w70 hbox hb; replace HB := mk0 (below_step (by repeat (first | (with_reducible first | exact HB.out | apply below_alloc | apply pw_below_drewN | apply below_drew1 | refine below_set ?_ (IsS101.ge HI0.out)) | exact HB.out)) hb); have BK441 := mk0 (hbox); have GW441 := mk0 ((by rw [hg]; exact (keep_size (w := w) (g := g) (row := none) kk) : w.heap.size ≤ gb441)); have GE441 := mk0 ((Nat.le_trans HW0.out (by rw [hg]; exact (keep_size (w := w) (g := g) (row := none) kk) : w.heap.size ≤ gb441) : w0.heap.size ≤ gb441)); replace HK := mk0 (KeepBut.trans kk (KeepBut.of_below hb g none) (.inl rfl)); have NB0_441 := mk0 ((by rw [hg]; exact Nat.ne_of_lt (IsS101.lt (show IsS101 w0 _ g s0_0 s0_1 s0_2 from by repeat (first | (with_reducible first | exact HI0.out | apply IsS101.alloc | apply IsS101.drewN | apply IsS101.drew | apply IsS101.set_1 | apply IsS101.set_2) | exact HI0.out))) : g ≠ gb441)); have NB441_0 := mk0 ((by rw [hg]; exact Nat.ne_of_gt (IsS101.lt (show IsS101 w0 _ g s0_0 s0_1 s0_2 from by repeat (first | (with_reducible first | exact HI0.out | apply IsS101.alloc | apply IsS101.drewN | apply IsS101.drew | apply IsS101.set_1 | apply IsS101.set_2) | exact HI0.out))) : gb441 ≠ g)); replace HI0 := mk0 (IsS101.below (by repeat (first | (with_reducible first | exact HI0.out | apply IsS101.alloc | apply IsS101.drewN | apply IsS101.drew | apply IsS101.set_1 | apply IsS101.set_2) | exact HI0.out)) hb); clear hb hbox hg) | ((with_reducible refine gD 4 rfl ?_); refine bx0 4 #[.int .i64 0, .string (⟨#[]⟩ : ByteArray), .string (⟨#[]⟩ : ByteArray), .slice none 0 0] 32 ?_; intro gb442 hg w71 hbox hb; replace HB := mk0 (below_step (by repeat (first | (with_reducible first | exact HB.out | apply below_alloc | apply pw_below_drewN | apply below_drew1 | refine below_set ?_ (IsS101.ge HI0.out) | refine below_set ?_ GE441.out) | exact HB.out)) hb); have BK442 := mk0 (hbox); have GW442 := mk0 ((by rw [hg]; exact (keep_size (w := w) (g := g) (row := none) (by repeat (first | (with_reducible first | exact HK.out | apply KeepBut.set_ | apply keep_drewN | apply keep_drew | apply keep_alloc | refine keep_far ?_ GW441.out _) | exact HK.out))) : w.heap.size ≤ gb442)); have GE442 := mk0 ((Nat.le_trans HW0.out (by rw [hg]; exact (keep_size (w := w) (g := g) (row := none) (by repeat (first | (with_reducible first | exact HK.out | apply KeepBut.set_ | apply keep_drewN | apply keep_drew | apply keep_alloc | refine keep_far ?_ GW441.out _) | exact HK.out))) : w.heap.size ≤ gb442) : w0.heap.size ≤ gb442)); replace HK := mk0 (KeepBut.trans (by repeat (first | (with_reducible first | exact HK.out | apply KeepBut.set_ | apply keep_drewN | apply keep_drew | apply keep_alloc | refine keep_far ?_ GW441.out _) | exact HK.out)) (KeepBut.of_below hb g none) (.inl rfl)); have NB441_442 := mk0 ((by rw [hg]; exact Nat.ne_of_lt (blk_lt (g := gb441) (o := .cells #[.int .i64 a1_0, .string a1_1, .string a1_2, .slice A1_3 l1_3.length c1_3] 32 (0, 0)) (kb BK441.out)) : gb441 ≠ gb442)); have NB442_441 := mk0 ((by rw [hg]; exact Nat.ne_of_gt (blk_lt (g := gb441) (o := .cells #[.int .i64 a1_0, .string a1_1, .string a1_2, .slice A1_3 l1_3.length c1_3] 32 (0, 0)) (kb BK441.out)) : gb442 ≠ gb441)); replace BK441 := mk0 (blk_below (kb BK441.out) hb); have NB0_442 := mk0 ((by rw [hg]; exact Nat.ne_of_lt (IsS101.lt (show IsS101 w0 _ g s0_0 s0_1 s0_2 from by repeat (first | (with_reducible first | exact HI0.out | apply IsS101.alloc | apply IsS101.drewN | apply IsS101.drew | apply IsS101.set_1 | apply IsS101.set_2 | refine IsS101.far ?_ NB0_441.out _) | exact HI0.out))) : g ≠ gb442)); have NB442_0 := mk0 ((by rw [hg]; exact Nat.ne_of_gt (IsS101.lt (show IsS101 w0 _ g s0_0 s0_1 s0_2 from by repeat (first | (with_reducible first | exact HI0.out | apply IsS101.alloc | apply IsS101.drewN | apply IsS101.drew | apply IsS101.set_1 | apply IsS101.set_2 | refine IsS101.far ?_ NB0_441.out _) | exact HI0.out))) : gb442 ≠ g)); replace HI0 := mk0 (IsS101.below (by repeat (first | (with_reducible first | exact HI0.out | apply IsS101.alloc | apply IsS101.drewN | apply IsS101.drew | apply IsS101.set_1 | apply IsS101.set_2 | refine IsS101.far ?_ NB0_441.out _) | exact HI0.out)) hb); clear hb hbox hg) | ((with_reducible refine gD 5 rfl ?_); refine lt Kd.string 9 5 ([] : List ByteArray) [] ?_; intro v444 w72 ho73 hb hg_ hnew_; clear hg_ hnew_; (first | rw [← Ny443.out] at ho73 | (simp only [Int.reduceToNat] at ho73; rw [← Ny443.out] at ho73)); have HO445 := mk0 (Kd.R_lower ho73 (keep_size (w := w) (g := g) (row := none) (by repeat (first | (with_reducible first | exact HK.out | apply KeepBut.set_ | apply keep_drewN | apply keep_drew | apply keep_alloc | refine keep_far ?_ GW441.out _ | refine keep_far ?_ GW442.out _) | exact HK.out)))); replace BK441 := mk0 (blk_below (kb BK441.out) hb); replace BK442 := mk0 (blk_below (kb BK442.out) hb); replace HK := mk0 (KeepBut.trans (by repeat (first | (with_reducible first | exact HK.out | apply KeepBut.set_ | apply keep_drewN | apply keep_drew | apply keep_alloc | refine keep_far ?_ GW441.out _ | refine keep_far ?_ GW442.out _) | exact HK.out)) (KeepBut.of_below hb g none) (.inl rfl)); replace HB := mk0 (below_step (by repeat (first | (with_reducible first | exact HB.out | apply below_alloc | apply pw_below_drewN | apply below_drew1 | refine below_set ?_ (IsS101.ge HI0.out) | refine below_set ?_ GE441.out | refine below_set ?_ GE442.out) | exact HB.out)) hb); replace HI0 := mk0 (IsS101.below (by repeat (first | (with_reducible first | exact HI0.out | apply IsS101.alloc | apply IsS101.drewN | apply IsS101.drew | apply IsS101.set_1 | apply IsS101.set_2 | refine IsS101.far ?_ NB0_441.out _ | refine IsS101.far ?_ NB0_442.out _) | exact HI0.out)) hb); clear hb ho73; have hnb74 := NB441_442.out; have hnc74 := NB442_441.out; have hnb75 := NB441_0.out; have hnc75 := NB0_441.out; obtain ⟨hcz76_0, hcz76_1, hcz76_2, hcz76_3, hfz76_0, hfz76_1, hfz76_2, hfz76_3⟩ := z4 BK441) | ((with_reducible refine gate_builtin (b := .append) (xs := #[.tmp 5, .tmp 7]) rfl ?_); at_builtin; refine Kd.R_append_rows Kd.string w.heap.size rfl (.tmp 5) (.tmp 7) 22 9 (.string ⟨#[]⟩) 16 rfl Try.underlying22 info9 rfl (by decide) (by omega) v444 y443 l1_3 _ _ _ (fun _ => True) (fun _ => False) rfl rfl ?aO ?aR (fun _ _ h => h) (fun _ h => h.elim) ?aF (Below.refl _ _) ?aS ?aL ?_; (case aR => exact Kd.C_keep (⟨#[]⟩ : ByteArray) HR1_3.out (by repeat (first | (with_reducible first | exact HK.out | apply KeepBut.set_ | apply keep_drewN | apply keep_drew | apply keep_alloc | refine keep_far ?_ GW441.out _ | refine keep_far ?_ GW442.out _) | exact HK.out)) hf1_3); (case aF => exact (fun _ _ => trivial)); (case aO => exact (rr HO445.out)); (case aS => exact (keep_size (w := w) (g := g) (row := none) (by repeat (first | (with_reducible first | exact HK.out | apply KeepBut.set_ | apply keep_drewN | apply keep_drew | apply keep_alloc | refine keep_far ?_ GW441.out _ | refine keep_far ?_ GW442.out _) | exact HK.out)))); (case aL => have := LMc3.out; omega); intro v447 w77 ho hb hg hat; rw [← Ny446.out] at ho; replace BK441 := mk0 (blk_grown (g := gb441) (o := .cells #[.int .i64 a1_0, .string a1_1, .string a1_2, .slice A1_3 l1_3.length c1_3] 32 (0, 0)) (kb BK441.out) hg (Kd.R_ne HO445.out BK441.out (by decide))); replace BK442 := mk0 (blk_grown (g := gb442) (o := .cells #[.int .i64 0, .string (⟨#[]⟩ : ByteArray), .string (⟨#[]⟩ : ByteArray), .slice none 0 0] 32 (0, 0)) (kb BK442.out) hg (Kd.R_ne HO445.out BK442.out (by decide))); replace HB := mk0 (below_weaken (by repeat (first | (with_reducible first | exact HB.out | apply below_alloc | apply pw_below_drewN | apply below_drew1 | refine below_set ?_ (IsS101.ge HI0.out) | refine below_set ?_ GE441.out | refine below_set ?_ GE442.out) | exact HB.out)) HL.out hb); replace HI0 := mk0 (IsS101.grown (by repeat (first | (with_reducible first | exact HI0.out | apply IsS101.alloc | apply IsS101.drewN | apply IsS101.drew | apply IsS101.set_1 | apply IsS101.set_2 | refine IsS101.far ?_ NB0_441.out _ | refine IsS101.far ?_ NB0_442.out _) | exact HI0.out)) hg (IsS101.own_ne HI0.out HO445.out (by decide))); replace HK := mk0 (KeepBut.trans (by repeat (first | (with_reducible first | exact HK.out | apply KeepBut.set_ | apply keep_drewN | apply keep_drew | apply keep_alloc | refine keep_far ?_ GW441.out _ | refine keep_far ?_ GW442.out _) | exact HK.out)) (KeepBut.of_grown hg g) (Kd.R_base2 HO445.out)); have HO448 := mk0 (ho); clear HO445; clear ho hb hg hat; obtain ⟨Ao78, co78, eo78⟩ := Kd.R_slice HO448.out; subst eo78; obtain ⟨hcz79_0, hcz79_1, hcz79_2, hcz79_3, hfz79_0, hfz79_1, hfz79_2, hfz79_3⟩ := z4 BK441) | ((with_reducible refine gC 71 (some 11) rfl rfl ?_); refine gG (some 11) Try.func71 #[.pointer (some ⟨g, 0, none⟩), .int .i64 5] ?_; refine (spec_l1Below.calls g s0_0 s0_1 s0_2 5 t449 t450 t451 w0 _ ?side1 ?side2 A4.out).mono ?_; (case side1 => repeat (first | (with_reducible first | exact HI0.out | apply IsS101.alloc | apply IsS101.drewN | apply IsS101.drew | apply IsS101.set_1 | apply IsS101.set_2 | refine IsS101.far ?_ NB0_441.out _ | refine IsS101.far ?_ NB0_442.out _) | exact HI0.out)); (case side2 => repeat (first | (with_reducible first | exact HB.out | apply below_alloc | apply pw_below_drewN | apply below_drew1 | refine below_set ?_ (IsS101.ge HI0.out) | refine below_set ?_ GE441.out | refine below_set ?_ GE442.out) | exact HB.out)); rintro e w80 ⟨rfl, hi, hb, hk⟩; refine ⟨_, rfl, ?_⟩; replace BK442 := mk0 (KeepBut.blk hk (g' := gb442) (o := .cells #[.int .i64 0, .string (⟨#[]⟩ : ByteArray), .string (⟨#[]⟩ : ByteArray), .slice none 0 0] 32 (0, 0)) (by (with_reducible repeat (first | refine blk_drewN ?_ _ | refine blk_drew ?_ | refine blk_alloc ?_ _)); refine blk_far ?_ NB442_441.out _; (with_reducible repeat (first | refine blk_drewN ?_ _ | refine blk_drew ?_ | refine blk_alloc ?_ _)); exact BK442.out) NB442_0.out (by simp)); replace HO448 := mk0 (Kd.R_mono (Kd.R_keep (IsS101.apart (show IsS101 w0 _ g s0_0 s0_1 s0_2 from by repeat (first | (with_reducible first | exact HI0.out | apply IsS101.alloc | apply IsS101.drewN | apply IsS101.drew | apply IsS101.set_1 | apply IsS101.set_2 | refine IsS101.far ?_ NB0_441.out _ | refine IsS101.far ?_ NB0_442.out _) | exact HI0.out)) (by (with_reducible repeat (first | apply Kd.R_alloc | apply Kd.R_drewN | apply Kd.R_drew)); exact (Kd.R_mono (Kd.R_far (p := ⟨gb441, 3, none⟩) (Kd.R_types HO448.out BK441.out (by decide)) (fun _ hk => hk.2) (.slice Ao78 y446.length co78)) (fun _ h_ => h_.1))) (by decide)) hk (fun _ h => h.2)) (fun _ h => h.1)); replace BK441 := mk0 (KeepBut.blk hk (g' := gb441) (o := .cells #[.int .i64 a1_0, .string a1_1, .string a1_2, .slice Ao78 y446.length co78] 32 (0, 0)) (by (with_reducible repeat (first | refine blk_drewN ?_ _ | refine blk_drew ?_ | refine blk_alloc ?_ _)); refine blk_put (cs := #[.int .i64 a1_0, .string a1_1, .string a1_2, .slice A1_3 l1_3.length c1_3]) ?_ 3 _ rfl; (with_reducible repeat (first | refine blk_drewN ?_ _ | refine blk_drew ?_ | refine blk_alloc ?_ _)); exact BK441.out) NB441_0.out (by simp)); replace HK := mk0 (KeepBut.trans (by repeat (first | (with_reducible first | exact HK.out | apply KeepBut.set_ | apply keep_drewN | apply keep_drew | apply keep_alloc | refine keep_far ?_ GW441.out _ | refine keep_far ?_ GW442.out _) | exact HK.out)) hk (.inl rfl)); replace HB := mk0 (hb); replace HI0 := mk0 (hi); clear hb hk hi))
         replace HO448 := mk0 (Kd.R_drew HO448.out)
         replace BK441 := mk0 (blk_drew BK441.out)
         replace BK442 := mk0 (blk_drew BK442.out)
         replace HI0 := mk0 (IsS101.drew HI0.out)
         replace HK := mk0 (keep_drew HK.out)
         replace HB := mk0 (below_drew1 HB.out)
         refine start_ (n := 11) (S := fun w' => w'.cell? ⟨gb441, 0, none⟩ = some (.int .i64 a1_0) ∧ w'.cell? ⟨gb441, 1, none⟩ = some (.string a1_1) ∧ w'.cell? ⟨gb441, 2, none⟩ = some (.string a1_2) ∧ w'.cell? ⟨gb441, 3, none⟩ = some (.slice Ao78 y446.length co78)) (ds := [10]) #[false, false, false, false, false, false, false, false, false, false, false] (by kernel_rfl) rfl rfl ⟨(blk_cell BK441.out 0).trans rfl, (blk_cell BK441.out 1).trans rfl, (blk_cell BK441.out 2).trans rfl, (blk_cell BK441.out 3).trans rfl⟩ (fun hHeld => ?_); refine with_tabW spec_l15Bend.tab10 spec_l15Bend.bits10 (fun HT_ HW_ => ?_)
         generalize w80.drew = w81 at HO448 BK441 BK442 HI0 HK HB hHeld ⊢
         refine pu 0 (some 34) HT_ ?_
         refine pu 2 (some 36) HT_ ?_
         refine tk 1 (some 35) HT_ HW_ hHeld ?_
         refine on 3 (some 37) HT_ (fun K hK => ?_)
         refine Kd.R_lit_step (Kd.int .u8) _ 5 ?hg (N := 37) ?hd (xs := ([1] : List Int)) (inner := [.int .u8 1]) (ok := fun _ => True) (okp := fun _ => True) ?hr ?hp (fun _ hk => hk) trivial (Below.refl _ _) (Nat.le_refl _) (by simp) ?_; (case hd => rfl); (case hg => rfl); (case hr => first | (go_simp; done) | (go_simp; rfl)); (case hp => exact (Reps.one (show Kd.M (Kd.int .u8) _ _ _ 1 [.int .u8 1] from rfl) (Reps.none _ _)))
         intro v469 w82 ho83 hb hg_ hnew_
         clear hg_ hnew_
         (first | rw [← Ny468.out] at ho83 | (simp only [Int.reduceToNat] at ho83; rw [← Ny468.out] at ho83))
         replace HO448 := mk0 (Kd.R_below (rr HO448.out) hb)
         have HO470 := mk0 (Kd.R_lower ho83 (keep_size (w := w) (g := g) (row := none) (by repeat (first | (with_reducible first | exact HK.out | apply KeepBut.set_ | apply keep_drewN | apply keep_drew | apply keep_alloc | refine keep_far ?_ GW441.out _ | refine keep_far ?_ GW442.out _) | exact HK.out))))
         replace BK441 := mk0 (blk_below (kb BK441.out) hb)
         replace BK442 := mk0 (blk_below (kb BK442.out) hb)
         replace HK := mk0 (KeepBut.trans (by repeat (first | (with_reducible first | exact HK.out | apply KeepBut.set_ | apply keep_drewN | apply keep_drew | apply keep_alloc | refine keep_far ?_ GW441.out _ | refine keep_far ?_ GW442.out _) | exact HK.out)) (KeepBut.of_below hb g none) (.inl rfl))
         replace HB := mk0 (below_step (by repeat (first | (with_reducible first | exact HB.out | apply below_alloc | apply pw_below_drewN | apply below_drew1 | refine below_set ?_ (IsS101.ge HI0.out) | refine below_set ?_ GE441.out | refine below_set ?_ GE442.out) | exact HB.out)) hb)
         replace HI0 := mk0 (IsS101.below (by repeat (first | (with_reducible first | exact HI0.out | apply IsS101.alloc | apply IsS101.drewN | apply IsS101.drew | apply IsS101.set_1 | apply IsS101.set_2 | refine IsS101.far ?_ NB0_441.out _ | refine IsS101.far ?_ NB0_442.out _) | exact HI0.out)) hb)
         clear hb ho83
         obtain ⟨Ao84, co84, eo84⟩ := Kd.R_slice HO470.out
         (first | subst eo84 | (injection eo84 with f1_ f2_ f3_; have f4_ := f1_.symm; have f5_ := f3_.symm; clear f1_ f2_ f3_; subst f4_; subst f5_))
         refine hK.out _ _ ⟨(blk_cell BK441.out 0).trans rfl, (blk_cell BK441.out 1).trans rfl, (blk_cell BK441.out 2).trans rfl, (blk_cell BK441.out 3).trans rfl⟩ (fun hHeld => ?_)
         clear hK K
         refine nr (some 37) ?_
         refine on 4 (some 38) HT_ (fun K hK => ?_)
         refine oB Try.func35 #[.slice Ao84 y468.length co84] (spec_Digest.calls k _ _ y468 t471 _ (cc ((Kd.R_reads' HO470.out).2.2)) ((Kd.R_reads' HO470.out).2.1) A67.out) ?_
         intro w85 hb
         replace HO448 := mk0 (Kd.R_below (rr HO448.out) hb)
         replace HO470 := mk0 (Kd.R_below (rr HO470.out) hb)
         replace BK441 := mk0 (blk_below (kb BK441.out) hb)
         replace BK442 := mk0 (blk_below (kb BK442.out) hb)
         replace HK := mk0 (KeepBut.trans (by repeat (first | (with_reducible first | exact HK.out | apply KeepBut.set_ | apply keep_drewN | apply keep_drew | apply keep_alloc | refine keep_far ?_ GW441.out _ | refine keep_far ?_ GW442.out _) | exact HK.out)) (KeepBut.of_below hb g none) (.inl rfl))
         replace HB := mk0 (below_step (by repeat (first | (with_reducible first | exact HB.out | apply below_alloc | apply pw_below_drewN | apply below_drew1 | refine below_set ?_ (IsS101.ge HI0.out) | refine below_set ?_ GE441.out | refine below_set ?_ GE442.out) | exact HB.out)) hb)
         replace HI0 := mk0 (IsS101.below (by repeat (first | (with_reducible first | exact HI0.out | apply IsS101.alloc | apply IsS101.drewN | apply IsS101.drew | apply IsS101.set_1 | apply IsS101.set_2 | refine IsS101.far ?_ NB0_441.out _ | refine IsS101.far ?_ NB0_442.out _) | exact HI0.out)) hb)
         (try clear hb); (try clear hk); (try clear hi)
         refine hK.out _ _ ⟨(blk_cell BK441.out 0).trans rfl, (blk_cell BK441.out 1).trans rfl, (blk_cell BK441.out 2).trans rfl, (blk_cell BK441.out 3).trans rfl⟩ (fun hHeld => ?_)
         clear hK K
         refine nr (some 38) ?_
         refine on 5 (some 39) HT_ (fun K hK => ?_)
         refine Kd.R_lit_step Kd.string _ 9 ?hg (N := 39) ?hd (xs := ([(⟨#[]⟩ : ByteArray), t471] : List ByteArray)) (inner := [.string (⟨#[]⟩ : ByteArray), .string t471]) (ok := fun _ => True) (okp := fun _ => True) ?hr ?hp (fun _ hk => hk) trivial (Below.refl _ _) (Nat.le_refl _) (by simp) ?_; (case hd => rfl); (case hg => rfl); (case hr => first | (go_simp; done) | (go_simp; rfl)); (case hp => exact (Reps.one (show Kd.M Kd.string _ _ _ (⟨#[]⟩ : ByteArray) [.string (⟨#[]⟩ : ByteArray)] from rfl) (Reps.one (show Kd.M Kd.string _ _ _ t471 [.string t471] from rfl) (Reps.none _ _))))
         intro v473 w86 ho87 hb hg_ hnew_
         clear hg_ hnew_
         (first | rw [← Ny472.out] at ho87 | (simp only [Int.reduceToNat] at ho87; rw [← Ny472.out] at ho87))
         replace HO470 := mk0 (Kd.R_below (rr HO470.out) hb)
         have HO474 := mk0 (Kd.R_lower (Kd.R_new' ho87 (Kd.R_lt (rr HO448.out))) (keep_size (w := w) (g := g) (row := none) (by repeat (first | (with_reducible first | exact HK.out | apply KeepBut.set_ | apply keep_drewN | apply keep_drew | apply keep_alloc | refine keep_far ?_ GW441.out _ | refine keep_far ?_ GW442.out _) | exact HK.out))))
         replace HO448 := mk0 (Kd.R_elder' (rr HO448.out) (Kd.R_base ho87) hb)
         replace BK441 := mk0 (blk_below (kb BK441.out) hb)
         replace BK442 := mk0 (blk_below (kb BK442.out) hb)
         replace HK := mk0 (KeepBut.trans (by repeat (first | (with_reducible first | exact HK.out | apply KeepBut.set_ | apply keep_drewN | apply keep_drew | apply keep_alloc | refine keep_far ?_ GW441.out _ | refine keep_far ?_ GW442.out _) | exact HK.out)) (KeepBut.of_below hb g none) (.inl rfl))
         replace HB := mk0 (below_step (by repeat (first | (with_reducible first | exact HB.out | apply below_alloc | apply pw_below_drewN | apply below_drew1 | refine below_set ?_ (IsS101.ge HI0.out) | refine below_set ?_ GE441.out | refine below_set ?_ GE442.out) | exact HB.out)) hb)
         replace HI0 := mk0 (IsS101.below (by repeat (first | (with_reducible first | exact HI0.out | apply IsS101.alloc | apply IsS101.drewN | apply IsS101.drew | apply IsS101.set_1 | apply IsS101.set_2 | refine IsS101.far ?_ NB0_441.out _ | refine IsS101.far ?_ NB0_442.out _) | exact HI0.out)) hb)
         clear hb ho87
         obtain ⟨Ao88, co88, eo88⟩ := Kd.R_slice HO474.out
         (first | subst eo88 | (injection eo88 with f1_ f2_ f3_; have f4_ := f1_.symm; have f5_ := f3_.symm; clear f1_ f2_ f3_; subst f4_; subst f5_))
         refine hK.out _ _ ⟨(blk_cell BK441.out 0).trans rfl, (blk_cell BK441.out 1).trans rfl, (blk_cell BK441.out 2).trans rfl, (blk_cell BK441.out 3).trans rfl⟩ (fun hHeld => ?_)
         clear hK K
         refine nr (some 39) ?_
         refine on 6 (some 40) HT_ (fun K hK => ?_)
         refine oG Try.func95 #[.pointer (some ⟨g, 0, none⟩), .slice Ao88 y472.length co88] ?_
         with_reducible refine (spec_l1Str.calls g s0_0 t450 t451 _ _ y472 t475 t476 t477 w0 _ ?side1 ?side2 (cc ((Kd.R_reads' HO474.out).2.2)) ((Kd.R_reads' HO474.out).2.1) ?side5 A68.out).mono ?_
         (case side1 => repeat (first | (with_reducible first | exact HI0.out | apply IsS101.alloc | apply IsS101.drewN | apply IsS101.drew | apply IsS101.set_1 | apply IsS101.set_2 | refine IsS101.far ?_ NB0_441.out _ | refine IsS101.far ?_ NB0_442.out _) | exact HI0.out))
         (case side2 => repeat (first | (with_reducible first | exact HB.out | apply below_alloc | apply pw_below_drewN | apply below_drew1 | refine below_set ?_ (IsS101.ge HI0.out) | refine below_set ?_ GE441.out | refine below_set ?_ GE442.out) | exact HB.out))
         (case side5 => exact far_slice (IsS101.own_ne HI0.out HO474.out (by decide)))
         rintro e w89 ⟨rfl, hi, hb, hk⟩
         refine ⟨_, rfl, ?_⟩
         replace BK441 := mk0 (KeepBut.blk hk (g' := gb441) (o := .cells #[.int .i64 a1_0, .string a1_1, .string a1_2, .slice Ao78 y446.length co78] 32 (0, 0)) (kb BK441.out) NB441_0.out (by simp))
         replace BK442 := mk0 (KeepBut.blk hk (g' := gb442) (o := .cells #[.int .i64 0, .string (⟨#[]⟩ : ByteArray), .string (⟨#[]⟩ : ByteArray), .slice none 0 0] 32 (0, 0)) (kb BK442.out) NB442_0.out (by simp))
         replace HO448 := mk0 (Kd.R_mono (Kd.R_keep (IsS101.apart (show IsS101 w0 _ g s0_0 t450 t451 from by repeat (first | (with_reducible first | exact HI0.out | apply IsS101.alloc | apply IsS101.drewN | apply IsS101.drew | apply IsS101.set_1 | apply IsS101.set_2 | refine IsS101.far ?_ NB0_441.out _ | refine IsS101.far ?_ NB0_442.out _) | exact HI0.out)) (rr HO448.out) (by decide)) hk (fun _ h => h.2)) (fun _ h => h.1))
         replace HO470 := mk0 (Kd.R_mono (Kd.R_keep (IsS101.apart (show IsS101 w0 _ g s0_0 t450 t451 from by repeat (first | (with_reducible first | exact HI0.out | apply IsS101.alloc | apply IsS101.drewN | apply IsS101.drew | apply IsS101.set_1 | apply IsS101.set_2 | refine IsS101.far ?_ NB0_441.out _ | refine IsS101.far ?_ NB0_442.out _) | exact HI0.out)) (rr HO470.out) (by decide)) hk (fun _ h => h.2)) (fun _ h => h.1))
         replace HO474 := mk0 (Kd.R_mono (Kd.R_keep (IsS101.apart (show IsS101 w0 _ g s0_0 t450 t451 from by repeat (first | (with_reducible first | exact HI0.out | apply IsS101.alloc | apply IsS101.drewN | apply IsS101.drew | apply IsS101.set_1 | apply IsS101.set_2 | refine IsS101.far ?_ NB0_441.out _ | refine IsS101.far ?_ NB0_442.out _) | exact HI0.out)) (rr HO474.out) (by decide)) hk (fun _ h => h.2)) (fun _ h => h.1))
         replace HK := mk0 (KeepBut.trans (by repeat (first | (with_reducible first | exact HK.out | apply KeepBut.set_ | apply keep_drewN | apply keep_drew | apply keep_alloc | refine keep_far ?_ GW441.out _ | refine keep_far ?_ GW442.out _) | exact HK.out)) hk (.inl rfl))
         replace HB := mk0 (hb)
         replace HI0 := mk0 (hi)
         (try clear hb); (try clear hk); (try clear hi)
         refine hK.out _ _ ⟨(blk_cell BK441.out 0).trans rfl, (blk_cell BK441.out 1).trans rfl, (blk_cell BK441.out 2).trans rfl, (blk_cell BK441.out 3).trans rfl⟩ (fun hHeld => ?_)
         clear hK K
         refine nr (some 40) ?_
         refine on 7 (some 41) HT_ (fun K hK => ?_)
         refine value_ (w1 := ?_) (v := ?_) (by rfl) rfl ?_ ?_
         rotate_left 2
         · go_simp
           constructor
           · rfl
           · rfl
         refine hK.out _ _ ⟨(blk_cell (blk_alloc BK441.out _) 0).trans rfl, (blk_cell (blk_alloc BK441.out _) 1).trans rfl, (blk_cell (blk_alloc BK441.out _) 2).trans rfl, (blk_cell (blk_alloc BK441.out _) 3).trans rfl⟩ (fun hHeld => ?_)
         clear hK K
         refine nr (some 41) ?_
         refine on 8 (some 42) HT_ (fun K hK => ?_)
         refine Kd.R_append_step Kd.string w.heap.size (by rfl) (.tmp 35) (.tmp 41) 22 9 (.string ⟨#[]⟩) 16 rfl Try.underlying22 info9 rfl (by decide) (by omega) (.slice Ao78 y446.length co78) y446 t475 [.string t475] (fun k_ => some k_ ≠ (.slice Ao88 y472.length co88 : Value).ownBlock) (fun _ => False) rfl rfl ?aP (fun _ hk => hk.elim) ?aF ?aO (Below.refl _ _) ?aS ?aL ?_
         (case aP => exact rfl)
         (case aF => exact (fun k_ hk => Kd.fresh' (Kd.R_lt (rr HO474.out)) k_ hk))
         (case aO => exact (by (with_reducible repeat (first | apply Kd.R_alloc | apply Kd.R_drewN | apply Kd.R_drew)); exact Kd.R_mono HO448.out (fun _ hk => hk.2)))
         (case aS => exact (keep_size (w := w) (g := g) (row := none) (by repeat (first | (with_reducible first | exact HK.out | apply KeepBut.set_ | apply keep_drewN | apply keep_drew | apply keep_alloc | refine keep_far ?_ GW441.out _ | refine keep_far ?_ GW442.out _) | exact HK.out))))
         (case aL => have := LMc69.out; omega)
         intro v479 w90 ho hb hg hat
         rw [← Ny478.out] at ho
         replace BK441 := mk0 (blk_grown (g := gb441) (o := .cells #[.int .i64 a1_0, .string a1_1, .string a1_2, .slice Ao78 y446.length co78] 32 (0, 0)) (kb BK441.out) hg (Kd.R_ne HO448.out BK441.out (by decide)))
         replace BK442 := mk0 (blk_grown (g := gb442) (o := .cells #[.int .i64 0, .string (⟨#[]⟩ : ByteArray), .string (⟨#[]⟩ : ByteArray), .slice none 0 0] 32 (0, 0)) (kb BK442.out) hg (Kd.R_ne HO448.out BK442.out (by decide)))
         replace HO470 := mk0 (Kd.R_over' (rr HO470.out) (Kd.R_typed (rr HO448.out)) (by decide) hg)
         replace HO474 := mk0 (Kd.R_after (ok := (fun _ => True)) (rr HO474.out) hg hat)
         replace HB := mk0 (below_weaken (by repeat (first | (with_reducible first | exact HB.out | apply below_alloc | apply pw_below_drewN | apply below_drew1 | refine below_set ?_ (IsS101.ge HI0.out) | refine below_set ?_ GE441.out | refine below_set ?_ GE442.out) | exact HB.out)) HL.out hb)
         replace HI0 := mk0 (IsS101.grown (by repeat (first | (with_reducible first | exact HI0.out | apply IsS101.alloc | apply IsS101.drewN | apply IsS101.drew | apply IsS101.set_1 | apply IsS101.set_2 | refine IsS101.far ?_ NB0_441.out _ | refine IsS101.far ?_ NB0_442.out _) | exact HI0.out)) hg (IsS101.own_ne HI0.out HO448.out (by decide)))
         replace HK := mk0 (KeepBut.trans (by repeat (first | (with_reducible first | exact HK.out | apply KeepBut.set_ | apply keep_drewN | apply keep_drew | apply keep_alloc | refine keep_far ?_ GW441.out _ | refine keep_far ?_ GW442.out _) | exact HK.out)) (KeepBut.of_grown hg g) (Kd.R_base2 HO448.out))
         have HO480 := mk0 (ho)
         clear HO448
         clear ho hb hg hat
         obtain ⟨Ao91, co91, eo91⟩ := Kd.R_slice HO480.out
         (first | subst eo91 | (injection eo91 with f1_ f2_ f3_; have f4_ := f1_.symm; have f5_ := f3_.symm; clear f1_ f2_ f3_; subst f4_; subst f5_))
         refine hK.out _ _ ⟨(blk_cell BK441.out 0).trans rfl, (blk_cell BK441.out 1).trans rfl, (blk_cell BK441.out 2).trans rfl, (blk_cell BK441.out 3).trans rfl⟩ (fun hHeld => ?_)
         clear hK K
         refine nr (some 42) ?_
         refine pu 9 (some 43) HT_ ?_
         refine last_ (i := 10) (N := none) #[true, true, true, true, true, true, true, true, true, true, true] rfl rfl (one_of HT_.out (by kernel_rfl)) (by decide) (fun K hK => ?_)
         have hs92 : w90.cell? ⟨gb441, 3, none⟩ = some (.slice Ao78 y446.length co78) := (blk_cell BK441.out 3).trans rfl
         have hfs92 := blk_frozen BK441.out 3
         have hns92_1 := NB442_441.out
         have hms92_1 := NB441_442.out
         refine skip_ (w1 := ?_) (by rfl) rfl ?_ ?_
         rotate_left
         · go_simp
           rfl
         refine hK.out _ _ ?_
         clear hK K
         refine dn HT_ ?_
         obtain ⟨hcz93_0, hcz93_1, hcz93_2, hcz93_3, hfz93_0, hfz93_1, hfz93_2, hfz93_3⟩ := z4 BK441
         have hnb94 := NB442_0.out
         have hnc94 := NB0_442.out
         obtain ⟨hcz95_0, hcz95_1, hcz95_2, hcz95_3, hfz95_0, hfz95_1, hfz95_2, hfz95_3⟩ := z4 BK442
         try go_wp2
         refine bodyPost_ret (results_cell_row rfl _ _ gb442 32 #[.int .i64 a1_0, .string a1_1, .string a1_2, .slice Ao91 y478.length co91] (0, 0) _ rfl (by (with_reducible repeat (first | refine blk_drewN ?_ _ | refine blk_drew ?_ | refine blk_alloc ?_ _)); refine blk_put (cs := #[.int .i64 a1_0, .string a1_1, .string a1_2, .slice none 0 0]) ?_ 3 _ rfl; (with_reducible repeat (first | refine blk_drewN ?_ _ | refine blk_drew ?_ | refine blk_alloc ?_ _)); refine blk_put (cs := #[.int .i64 a1_0, .string a1_1, .string (⟨#[]⟩ : ByteArray), .slice none 0 0]) ?_ 2 _ rfl; (with_reducible repeat (first | refine blk_drewN ?_ _ | refine blk_drew ?_ | refine blk_alloc ?_ _)); refine blk_put (cs := #[.int .i64 a1_0, .string (⟨#[]⟩ : ByteArray), .string (⟨#[]⟩ : ByteArray), .slice none 0 0]) ?_ 1 _ rfl; (with_reducible repeat (first | refine blk_drewN ?_ _ | refine blk_drew ?_ | refine blk_alloc ?_ _)); refine blk_put (cs := #[.int .i64 0, .string (⟨#[]⟩ : ByteArray), .string (⟨#[]⟩ : ByteArray), .slice none 0 0]) ?_ 0 _ rfl; (with_reducible repeat (first | refine blk_drewN ?_ _ | refine blk_drew ?_ | refine blk_alloc ?_ _)); refine blk_far ?_ NB442_441.out _; (with_reducible repeat (first | refine blk_drewN ?_ _ | refine blk_drew ?_ | refine blk_alloc ?_ _)); exact BK442.out) Try.underlying32 rfl (by kernel_rfl)) rfl ?_
         exact ⟨_, sw, by (with_reducible repeat (first | apply Kd.R_alloc | apply Kd.R_drewN | apply Kd.R_drew)); exact Kd.R_mono (Kd.R_far (p := ⟨gb442, 3, none⟩) (Kd.R_far (p := ⟨gb442, 2, none⟩) (Kd.R_far (p := ⟨gb442, 1, none⟩) (Kd.R_far (p := ⟨gb442, 0, none⟩) (Kd.R_far (p := ⟨gb441, 3, none⟩) (Kd.R_types (Kd.R_types HO480.out BK441.out (by decide)) BK442.out (by decide)) (fun _ hk => hk.1.2) (.slice Ao91 y478.length co91)) (fun _ hk => hk.2) (.int .i64 a1_0)) (fun _ hk => hk.2) (.string a1_1)) (fun _ hk => hk.2) (.string a1_2)) (fun _ hk => hk.2) (.slice Ao91 y478.length co91)) (fun _ hk => trivial), by repeat (first | (with_reducible first | exact HI0.out | apply IsS101.alloc | apply IsS101.drewN | apply IsS101.drew | apply IsS101.set_1 | apply IsS101.set_2 | refine IsS101.far ?_ NB0_441.out _ | refine IsS101.far ?_ NB0_442.out _) | exact HI0.out), by repeat (first | (with_reducible first | exact HB.out | apply below_alloc | apply pw_below_drewN | apply below_drew1 | refine below_set ?_ (IsS101.ge HI0.out) | refine below_set ?_ GE441.out | refine below_set ?_ GE442.out) | exact HB.out), by repeat (first | (with_reducible first | exact HK.out | apply KeepBut.set_ | apply keep_drewN | apply keep_drew | apply keep_alloc | refine keep_far ?_ GW441.out _ | refine keep_far ?_ GW442.out _) | exact HK.out)⟩
       · simp only [Option.some.injEq, Prod.mk.injEq] at H
         obtain ⟨rfl, rfl, rfl, rfl, rfl, rfl⟩ := H
         go_enter Try.func72, Try.ntmps72
         go_wp2_with (first | ((with_reducible refine gD 3 rfl ?_); refine bx0 3 #[.int .i64 a1_0, .string a1_1, .string a1_2, .slice A1_3 l1_3.length c1_3] 32 ?_; intro gb441 hg w96 hbox hb; replace HB := mk0 (below_step (by repeat (first | (with_reducible first | exact HB.out | apply below_alloc | apply pw_below_drewN | apply below_drew1 | refine below_set ?_ (IsS101.ge HI0.out)) | exact HB.out)) hb); have BK441 := mk0 (hbox); have GW441 := mk0 ((by rw [hg]; exact (keep_size (w := w) (g := g) (row := none) kk) : w.heap.size ≤ gb441)); have GE441 := mk0 ((Nat.le_trans HW0.out (by rw [hg]; exact (keep_size (w := w) (g := g) (row := none) kk) : w.heap.size ≤ gb441) : w0.heap.size ≤ gb441)); replace HK := mk0 (KeepBut.trans kk (KeepBut.of_below hb g none) (.inl rfl)); have NB0_441 := mk0 ((by rw [hg]; exact Nat.ne_of_lt (IsS101.lt (show IsS101 w0 _ g s0_0 s0_1 s0_2 from by repeat (first | (with_reducible first | exact HI0.out | apply IsS101.alloc | apply IsS101.drewN | apply IsS101.drew | apply IsS101.set_1 | apply IsS101.set_2) | exact HI0.out))) : g ≠ gb441)); have NB441_0 := mk0 ((by rw [hg]; exact Nat.ne_of_gt (IsS101.lt (show IsS101 w0 _ g s0_0 s0_1 s0_2 from by repeat (first | (with_reducible first | exact HI0.out | apply IsS101.alloc | apply IsS101.drewN | apply IsS101.drew | apply IsS101.set_1 | apply IsS101.set_2) | exact HI0.out))) : gb441 ≠ g)); replace HI0 := mk0 (IsS101.below (by repeat (first | (with_reducible first | exact HI0.out | apply IsS101.alloc | apply IsS101.drewN | apply IsS101.drew | apply IsS101.set_1 | apply IsS101.set_2) | exact HI0.out)) hb); clear hb hbox hg) | ((with_reducible refine gD 4 rfl ?_); refine bx0 4 #[.int .i64 0, .string (⟨#[]⟩ : ByteArray), .string (⟨#[]⟩ : ByteArray), .slice none 0 0] 32 ?_; intro gb442 hg w97 hbox hb; replace HB := mk0 (below_step (by repeat (first | (with_reducible first | exact HB.out | apply below_alloc | apply pw_below_drewN | apply below_drew1 | refine below_set ?_ (IsS101.ge HI0.out) | refine below_set ?_ GE441.out) | exact HB.out)) hb); have BK442 := mk0 (hbox); have GW442 := mk0 ((by rw [hg]; exact (keep_size (w := w) (g := g) (row := none) (by repeat (first | (with_reducible first | exact HK.out | apply KeepBut.set_ | apply keep_drewN | apply keep_drew | apply keep_alloc | refine keep_far ?_ GW441.out _) | exact HK.out))) : w.heap.size ≤ gb442)); have GE442 := mk0 ((Nat.le_trans HW0.out (by rw [hg]; exact (keep_size (w := w) (g := g) (row := none) (by repeat (first | (with_reducible first | exact HK.out | apply KeepBut.set_ | apply keep_drewN | apply keep_drew | apply keep_alloc | refine keep_far ?_ GW441.out _) | exact HK.out))) : w.heap.size ≤ gb442) : w0.heap.size ≤ gb442)); replace HK := mk0 (KeepBut.trans (by repeat (first | (with_reducible first | exact HK.out | apply KeepBut.set_ | apply keep_drewN | apply keep_drew | apply keep_alloc | refine keep_far ?_ GW441.out _) | exact HK.out)) (KeepBut.of_below hb g none) (.inl rfl)); have NB441_442 := mk0 ((by rw [hg]; exact Nat.ne_of_lt (blk_lt (g := gb441) (o := .cells #[.int .i64 a1_0, .string a1_1, .string a1_2, .slice A1_3 l1_3.length c1_3] 32 (0, 0)) (kb BK441.out)) : gb441 ≠ gb442)); have NB442_441 := mk0 ((by rw [hg]; exact Nat.ne_of_gt (blk_lt (g := gb441) (o := .cells #[.int .i64 a1_0, .string a1_1, .string a1_2, .slice A1_3 l1_3.length c1_3] 32 (0, 0)) (kb BK441.out)) : gb442 ≠ gb441)); replace BK441 := mk0 (blk_below (kb BK441.out) hb); have NB0_442 := mk0 ((by rw [hg]; exact Nat.ne_of_lt (IsS101.lt (show IsS101 w0 _ g s0_0 s0_1 s0_2 from by repeat (first | (with_reducible first | exact HI0.out | apply IsS101.alloc | apply IsS101.drewN | apply IsS101.drew | apply IsS101.set_1 | apply IsS101.set_2 | refine IsS101.far ?_ NB0_441.out _) | exact HI0.out))) : g ≠ gb442)); have NB442_0 := mk0 ((by rw [hg]; exact Nat.ne_of_gt (IsS101.lt (show IsS101 w0 _ g s0_0 s0_1 s0_2 from by repeat (first | (with_reducible first | exact HI0.out | apply IsS101.alloc | apply IsS101.drewN | apply IsS101.drew | apply IsS101.set_1 | apply IsS101.set_2 | refine IsS101.far ?_ NB0_441.out _) | exact HI0.out))) : gb442 ≠ g)); replace HI0 := mk0 (IsS101.below (by repeat (first | (with_reducible first | exact HI0.out | apply IsS101.alloc | apply IsS101.drewN | apply IsS101.drew | apply IsS101.set_1 | apply IsS101.set_2 | refine IsS101.far ?_ NB0_441.out _) | exact HI0.out)) hb); clear hb hbox hg) | ((with_reducible refine gD 5 rfl ?_); refine lt Kd.string 9 5 ([] : List ByteArray) [] ?_; intro v444 w98 ho99 hb hg_ hnew_; clear hg_ hnew_; (first | rw [← Ny443.out] at ho99 | (simp only [Int.reduceToNat] at ho99; rw [← Ny443.out] at ho99)); have HO445 := mk0 (Kd.R_lower ho99 (keep_size (w := w) (g := g) (row := none) (by repeat (first | (with_reducible first | exact HK.out | apply KeepBut.set_ | apply keep_drewN | apply keep_drew | apply keep_alloc | refine keep_far ?_ GW441.out _ | refine keep_far ?_ GW442.out _) | exact HK.out)))); replace BK441 := mk0 (blk_below (kb BK441.out) hb); replace BK442 := mk0 (blk_below (kb BK442.out) hb); replace HK := mk0 (KeepBut.trans (by repeat (first | (with_reducible first | exact HK.out | apply KeepBut.set_ | apply keep_drewN | apply keep_drew | apply keep_alloc | refine keep_far ?_ GW441.out _ | refine keep_far ?_ GW442.out _) | exact HK.out)) (KeepBut.of_below hb g none) (.inl rfl)); replace HB := mk0 (below_step (by repeat (first | (with_reducible first | exact HB.out | apply below_alloc | apply pw_below_drewN | apply below_drew1 | refine below_set ?_ (IsS101.ge HI0.out) | refine below_set ?_ GE441.out | refine below_set ?_ GE442.out) | exact HB.out)) hb); replace HI0 := mk0 (IsS101.below (by repeat (first | (with_reducible first | exact HI0.out | apply IsS101.alloc | apply IsS101.drewN | apply IsS101.drew | apply IsS101.set_1 | apply IsS101.set_2 | refine IsS101.far ?_ NB0_441.out _ | refine IsS101.far ?_ NB0_442.out _) | exact HI0.out)) hb); clear hb ho99; have hnb100 := NB441_442.out; have hnc100 := NB442_441.out; have hnb101 := NB441_0.out; have hnc101 := NB0_441.out; obtain ⟨hcz102_0, hcz102_1, hcz102_2, hcz102_3, hfz102_0, hfz102_1, hfz102_2, hfz102_3⟩ := z4 BK441) | ((with_reducible refine gate_builtin (b := .append) (xs := #[.tmp 5, .tmp 7]) rfl ?_); at_builtin; refine Kd.R_append_rows Kd.string w.heap.size rfl (.tmp 5) (.tmp 7) 22 9 (.string ⟨#[]⟩) 16 rfl Try.underlying22 info9 rfl (by decide) (by omega) v444 y443 l1_3 _ _ _ (fun _ => True) (fun _ => False) rfl rfl ?aO ?aR (fun _ _ h => h) (fun _ h => h.elim) ?aF (Below.refl _ _) ?aS ?aL ?_; (case aR => exact Kd.C_keep (⟨#[]⟩ : ByteArray) HR1_3.out (by repeat (first | (with_reducible first | exact HK.out | apply KeepBut.set_ | apply keep_drewN | apply keep_drew | apply keep_alloc | refine keep_far ?_ GW441.out _ | refine keep_far ?_ GW442.out _) | exact HK.out)) hf1_3); (case aF => exact (fun _ _ => trivial)); (case aO => exact (rr HO445.out)); (case aS => exact (keep_size (w := w) (g := g) (row := none) (by repeat (first | (with_reducible first | exact HK.out | apply KeepBut.set_ | apply keep_drewN | apply keep_drew | apply keep_alloc | refine keep_far ?_ GW441.out _ | refine keep_far ?_ GW442.out _) | exact HK.out)))); (case aL => have := LMc3.out; omega); intro v447 w103 ho hb hg hat; rw [← Ny446.out] at ho; replace BK441 := mk0 (blk_grown (g := gb441) (o := .cells #[.int .i64 a1_0, .string a1_1, .string a1_2, .slice A1_3 l1_3.length c1_3] 32 (0, 0)) (kb BK441.out) hg (Kd.R_ne HO445.out BK441.out (by decide))); replace BK442 := mk0 (blk_grown (g := gb442) (o := .cells #[.int .i64 0, .string (⟨#[]⟩ : ByteArray), .string (⟨#[]⟩ : ByteArray), .slice none 0 0] 32 (0, 0)) (kb BK442.out) hg (Kd.R_ne HO445.out BK442.out (by decide))); replace HB := mk0 (below_weaken (by repeat (first | (with_reducible first | exact HB.out | apply below_alloc | apply pw_below_drewN | apply below_drew1 | refine below_set ?_ (IsS101.ge HI0.out) | refine below_set ?_ GE441.out | refine below_set ?_ GE442.out) | exact HB.out)) HL.out hb); replace HI0 := mk0 (IsS101.grown (by repeat (first | (with_reducible first | exact HI0.out | apply IsS101.alloc | apply IsS101.drewN | apply IsS101.drew | apply IsS101.set_1 | apply IsS101.set_2 | refine IsS101.far ?_ NB0_441.out _ | refine IsS101.far ?_ NB0_442.out _) | exact HI0.out)) hg (IsS101.own_ne HI0.out HO445.out (by decide))); replace HK := mk0 (KeepBut.trans (by repeat (first | (with_reducible first | exact HK.out | apply KeepBut.set_ | apply keep_drewN | apply keep_drew | apply keep_alloc | refine keep_far ?_ GW441.out _ | refine keep_far ?_ GW442.out _) | exact HK.out)) (KeepBut.of_grown hg g) (Kd.R_base2 HO445.out)); have HO448 := mk0 (ho); clear HO445; clear ho hb hg hat; obtain ⟨Ao104, co104, eo104⟩ := Kd.R_slice HO448.out; subst eo104; obtain ⟨hcz105_0, hcz105_1, hcz105_2, hcz105_3, hfz105_0, hfz105_1, hfz105_2, hfz105_3⟩ := z4 BK441) | ((with_reducible refine gC 71 (some 11) rfl rfl ?_); refine gG (some 11) Try.func71 #[.pointer (some ⟨g, 0, none⟩), .int .i64 5] ?_; refine (spec_l1Below.calls g s0_0 s0_1 s0_2 5 t449 t450 t451 w0 _ ?side1 ?side2 A4.out).mono ?_; (case side1 => repeat (first | (with_reducible first | exact HI0.out | apply IsS101.alloc | apply IsS101.drewN | apply IsS101.drew | apply IsS101.set_1 | apply IsS101.set_2 | refine IsS101.far ?_ NB0_441.out _ | refine IsS101.far ?_ NB0_442.out _) | exact HI0.out)); (case side2 => repeat (first | (with_reducible first | exact HB.out | apply below_alloc | apply pw_below_drewN | apply below_drew1 | refine below_set ?_ (IsS101.ge HI0.out) | refine below_set ?_ GE441.out | refine below_set ?_ GE442.out) | exact HB.out)); rintro e w106 ⟨rfl, hi, hb, hk⟩; refine ⟨_, rfl, ?_⟩; replace BK442 := mk0 (KeepBut.blk hk (g' := gb442) (o := .cells #[.int .i64 0, .string (⟨#[]⟩ : ByteArray), .string (⟨#[]⟩ : ByteArray), .slice none 0 0] 32 (0, 0)) (by (with_reducible repeat (first | refine blk_drewN ?_ _ | refine blk_drew ?_ | refine blk_alloc ?_ _)); refine blk_far ?_ NB442_441.out _; (with_reducible repeat (first | refine blk_drewN ?_ _ | refine blk_drew ?_ | refine blk_alloc ?_ _)); exact BK442.out) NB442_0.out (by simp)); replace HO448 := mk0 (Kd.R_mono (Kd.R_keep (IsS101.apart (show IsS101 w0 _ g s0_0 s0_1 s0_2 from by repeat (first | (with_reducible first | exact HI0.out | apply IsS101.alloc | apply IsS101.drewN | apply IsS101.drew | apply IsS101.set_1 | apply IsS101.set_2 | refine IsS101.far ?_ NB0_441.out _ | refine IsS101.far ?_ NB0_442.out _) | exact HI0.out)) (by (with_reducible repeat (first | apply Kd.R_alloc | apply Kd.R_drewN | apply Kd.R_drew)); exact (Kd.R_mono (Kd.R_far (p := ⟨gb441, 3, none⟩) (Kd.R_types HO448.out BK441.out (by decide)) (fun _ hk => hk.2) (.slice Ao104 y446.length co104)) (fun _ h_ => h_.1))) (by decide)) hk (fun _ h => h.2)) (fun _ h => h.1)); replace BK441 := mk0 (KeepBut.blk hk (g' := gb441) (o := .cells #[.int .i64 a1_0, .string a1_1, .string a1_2, .slice Ao104 y446.length co104] 32 (0, 0)) (by (with_reducible repeat (first | refine blk_drewN ?_ _ | refine blk_drew ?_ | refine blk_alloc ?_ _)); refine blk_put (cs := #[.int .i64 a1_0, .string a1_1, .string a1_2, .slice A1_3 l1_3.length c1_3]) ?_ 3 _ rfl; (with_reducible repeat (first | refine blk_drewN ?_ _ | refine blk_drew ?_ | refine blk_alloc ?_ _)); exact BK441.out) NB441_0.out (by simp)); replace HK := mk0 (KeepBut.trans (by repeat (first | (with_reducible first | exact HK.out | apply KeepBut.set_ | apply keep_drewN | apply keep_drew | apply keep_alloc | refine keep_far ?_ GW441.out _ | refine keep_far ?_ GW442.out _) | exact HK.out)) hk (.inl rfl)); replace HB := mk0 (hb); replace HI0 := mk0 (hi); clear hb hk hi; obtain ⟨hcz107_0, hcz107_1, hcz107_2, hcz107_3, hfz107_0, hfz107_1, hfz107_2, hfz107_3⟩ := z4 BK441; have hnb108 := NB442_0.out; have hnc108 := NB0_442.out; obtain ⟨hcz109_0, hcz109_1, hcz109_2, hcz109_3, hfz109_0, hfz109_1, hfz109_2, hfz109_3⟩ := z4 BK442))
         refine bodyPost_ret (results_cell_row rfl _ _ gb442 32 #[.int .i64 a1_0, .string a1_1, .string a1_2, .slice Ao104 y446.length co104] (0, 0) _ rfl (by (with_reducible repeat (first | refine blk_drewN ?_ _ | refine blk_drew ?_ | refine blk_alloc ?_ _)); refine blk_put (cs := #[.int .i64 a1_0, .string a1_1, .string a1_2, .slice none 0 0]) ?_ 3 _ rfl; (with_reducible repeat (first | refine blk_drewN ?_ _ | refine blk_drew ?_ | refine blk_alloc ?_ _)); refine blk_put (cs := #[.int .i64 a1_0, .string a1_1, .string (⟨#[]⟩ : ByteArray), .slice none 0 0]) ?_ 2 _ rfl; (with_reducible repeat (first | refine blk_drewN ?_ _ | refine blk_drew ?_ | refine blk_alloc ?_ _)); refine blk_put (cs := #[.int .i64 a1_0, .string (⟨#[]⟩ : ByteArray), .string (⟨#[]⟩ : ByteArray), .slice none 0 0]) ?_ 1 _ rfl; (with_reducible repeat (first | refine blk_drewN ?_ _ | refine blk_drew ?_ | refine blk_alloc ?_ _)); refine blk_put (cs := #[.int .i64 0, .string (⟨#[]⟩ : ByteArray), .string (⟨#[]⟩ : ByteArray), .slice none 0 0]) ?_ 0 _ rfl; (with_reducible repeat (first | refine blk_drewN ?_ _ | refine blk_drew ?_ | refine blk_alloc ?_ _)); exact BK442.out) Try.underlying32 rfl (by kernel_rfl)) rfl ?_
         exact ⟨_, sw, by (with_reducible repeat (first | apply Kd.R_alloc | apply Kd.R_drewN | apply Kd.R_drew)); exact Kd.R_mono (Kd.R_far (p := ⟨gb442, 3, none⟩) (Kd.R_far (p := ⟨gb442, 2, none⟩) (Kd.R_far (p := ⟨gb442, 1, none⟩) (Kd.R_far (p := ⟨gb442, 0, none⟩) (Kd.R_types HO448.out BK442.out (by decide)) (fun _ hk => hk.2) (.int .i64 a1_0)) (fun _ hk => hk.2) (.string a1_1)) (fun _ hk => hk.2) (.string a1_2)) (fun _ hk => hk.2) (.slice Ao104 y446.length co104)) (fun _ hk => trivial), by repeat (first | (with_reducible first | exact HI0.out | apply IsS101.alloc | apply IsS101.drewN | apply IsS101.drew | apply IsS101.set_1 | apply IsS101.set_2 | refine IsS101.far ?_ NB0_441.out _ | refine IsS101.far ?_ NB0_442.out _) | exact HI0.out), by repeat (first | (with_reducible first | exact HB.out | apply below_alloc | apply pw_below_drewN | apply below_drew1 | refine below_set ?_ (IsS101.ge HI0.out) | refine below_set ?_ GE441.out | refine below_set ?_ GE442.out) | exact HB.out), by repeat (first | (with_reducible first | exact HK.out | apply KeepBut.set_ | apply keep_drewN | apply keep_drew | apply keep_alloc | refine keep_far ?_ GW441.out _ | refine keep_far ?_ GW442.out _) | exact HK.out)⟩
/-! ### spec_l15Any: function 44 -/
def spec_l15Any.j0 : Nat → List (S32) → Bool → List Int → Int → Int → Option ((List (S32)) × Int × Int)
  | 0, _, _, _, _, _ => none
  | k + 1, x3, x13, x1000, x1001, x1002 => if x13 = true then ((spec_l1Below.f x1000 x1001 x1002 (x3.length : Int)).bind fun bt489 => (if 0 ≤ bt489.1 then (if bt489.1 < (x3.length : Int) then ((spec_l15Bend.f k x1000 bt489.2.1 bt489.2.2 ((rd_T32 x3 bt489.1).f0) ((rd_T32 x3 bt489.1).f1) ((rd_T32 x3 bt489.1).f2) ((rd_T32 x3 bt489.1).f3)).bind fun bt493 => (some ((x3.set (bt489.1 : Int).toNat (⟨bt493.1, bt493.2.1, bt493.2.2.1, bt493.2.2.2.1⟩ : S32)), bt493.2.2.2.2.1, bt493.2.2.2.2.2))) else (none)) else (none))) else (some (x3, x1001, x1002))
def spec_l15Any.f (k : Nat) (s0_0 : List Int) (s0_1 : Int) (s0_2 : Int) : Option ((List (S32)) × Int × Int) := (spec_l15Draw.f k s0_0 s0_1 s0_2).bind fun bt481 => (if (bt481.1.length : Int) > 0 then ((spec_l1Once.f s0_0 bt481.2.1 bt481.2.2 3).bind fun bt486 => (spec_l15Any.j0 k bt481.1 bt486.1 s0_0 bt486.2.1 bt486.2.2)) else (spec_l15Any.j0 k bt481.1 false s0_0 bt481.2.1 bt481.2.2))
theorem spec_l15Any.mono_l : ∀ k, (∀ y0 y1 y2 y3 y4, LeO (spec_l15Any.j0 k y0 y1 y2 y3 y4) (spec_l15Any.j0 (k + 1) y0 y1 y2 y3 y4))
  | 0 => fun _ _ _ _ _ r h => by simp [spec_l15Any.j0] at h
  | k + 1 => by
    have ih0 := spec_l15Any.mono_l k
    · intro y0 y1 y2 y3 y4
      unfold spec_l15Any.j0
      have m0 := @spec_l15Bend.mono
      have m1 := @spec_l15Draw.mono
      exact me
theorem spec_l15Any.mono : ∀ a0 a1 a2 k, LeO (spec_l15Any.f k a0 a1 a2) (spec_l15Any.f (k + 1) a0 a1 a2) := by
  intro a0 a1 a2 k
  have ih0 := spec_l15Any.mono_l k
  unfold spec_l15Any.f
  have m0 := @spec_l15Bend.mono
  have m1 := @spec_l15Draw.mono
  exact me
theorem spec_l15Any.calls (k : Nat) (g : Nat) (s0_0 : List Int) (s0_1 : Int) (s0_2 : Int) (r1 : List (S32)) (r2 : Int) (r3 : Int) (w0 w : World) (hI : IsS101 w0 w g s0_0 s0_1 s0_2) (hB : Below w0.heap.size w0 w) (h : spec_l15Any.f k s0_0 s0_1 s0_2 = some (r1, r2, r3)) :
    Calls Try.prog 44 #[.pointer (some ⟨g, 0, none⟩)] w fun e w' => ∃ v0_ : Value, e = .returned (v0_) ∧ Kd.S k32 32 w' w.heap.size (fun _ => True) v0_ r1 ∧ IsS101 w0 w' g s0_0 r2 r3 ∧ Below w0.heap.size w0 w' ∧ KeepBut w w' g none := by
 have hu32 := Try.underlying32
 have HI0 := mk0 hI
 have HK := mk0 (KeepBut.refl w g none)
 have HL := mk0 hB.size
 clear hI
 have HW0 := mk0 hB.size
 have HB := mk0 hB
 clear hB
 have H : ((spec_l15Draw.f k s0_0 s0_1 s0_2).bind fun bt481 => (if (bt481.1.length : Int) > 0 then ((spec_l1Once.f s0_0 bt481.2.1 bt481.2.2 3).bind fun bt486 => (spec_l15Any.j0 k bt481.1 bt486.1 s0_0 bt486.2.1 bt486.2.2)) else (spec_l15Any.j0 k bt481.1 false s0_0 bt481.2.1 bt481.2.2))) = some (r1, r2, r3) := h
 clear h
 replace H := bd H; obtain ⟨⟨t481, t484, t485⟩, A2, H⟩ := H
 (try dsimp only at H)
 have HC3 := mk0 H; clear H
 go_enter Try.func44, Try.ntmps44
 go_upto_region 2 with (first | ((with_reducible refine gC 69 (some 6) rfl rfl ?_); refine gG (some 6) Try.func69 #[.pointer (some ⟨g, 0, none⟩)] ?_; refine (spec_l15Draw.calls k g s0_0 s0_1 s0_2 t481 t484 t485 w0 _ ?side1 ?side2 A2.out).mono ?_; (case side1 => repeat (first | (with_reducible first | exact HI0.out | apply IsS101.alloc | apply IsS101.drewN | apply IsS101.drew | apply IsS101.set_1 | apply IsS101.set_2) | exact HI0.out)); (case side2 => repeat (first | (with_reducible first | exact HB.out | apply below_alloc | apply pw_below_drewN | apply below_drew1 | refine below_set ?_ (IsS101.ge HI0.out)) | exact HB.out)); rintro e w4 ⟨v482, rfl, ho0, hi, hb, hk⟩; refine ⟨_, rfl, ?_⟩; have HO483 := mk0 (Kd.S_lower ho0 (keep_size (w := w) (g := g) (row := none) kk)); replace HK := mk0 (KeepBut.trans kk hk (.inl rfl)); replace HB := mk0 (hb); replace HI0 := mk0 (hi); clear hb hk hi ho0))
 (try simp only [Act.put, List.setIfInBounds_toArray, List.set_cons_zero, List.set_cons_succ])
 go_cut [13] (fun v13 wc => ∃ (kq : Nat) (x13_2 : Bool) (x1001_2 : Int) (x1002_2 : Int), v13 = .bool x13_2 ∧ Aside0 (spec_l15Any.j0 kq t481 x13_2 s0_0 x1001_2 x1002_2 = some (r1, r2, r3)) ∧ Aside0 (kq ≤ k) ∧ Aside0 (Kd.S k32 32 wc w.heap.size (fun _ => True) v482 t481) ∧ Aside0 (IsS101 w0 wc g s0_0 x1001_2 x1002_2) ∧ Aside0 (KeepBut w wc g none) ∧ Aside0 (Below w0.heap.size w0 wc))
 case first =>
  have H := HC3.out
  clear HC3
  replace H := ip H; rcases H with ⟨c5, H⟩ | ⟨c5, H⟩
  · have c5b0 : decide (0 < (t481.length : Int)) = true := decide_eq_true c5
    have c5b1 : decide (0 < t481.length) = true := decide_eq_true (by omega)
    clear c5
    (first | rw [c5b0] | (simp only [i64_w, i32_w]; rw [c5b0]) | skip)
    replace H := bd H; obtain ⟨⟨t486, t487, t488⟩, A6, H⟩ := H
    (try dsimp only at H)
    have H' := mk0 H
    clear H
    obtain ⟨Ao7, co7, eo7⟩ := Kd.S_slice HO483.out
    subst eo7
    go_wp2_with (first | (go_at_call 70; (with_reducible refine (spec_l1Once.calls g s0_0 t484 t485 3 t486 t487 t488 w0 _ ?side1 ?side2 A6.out).mono ?_); (case side1 => repeat (first | (with_reducible first | exact HI0.out | apply IsS101.alloc | apply IsS101.drewN | apply IsS101.drew | apply IsS101.set_1 | apply IsS101.set_2) | exact HI0.out)); (case side2 => repeat (first | (with_reducible first | exact HB.out | apply below_alloc | apply pw_below_drewN | apply below_drew1 | refine below_set ?_ (IsS101.ge HI0.out)) | exact HB.out)); rintro e w8 ⟨rfl, hi, hb, hk⟩; replace HO483 := mk0 (Kd.S_mono (Kd.S_keep (IsS101.apartS (show IsS101 w0 _ g s0_0 t484 t485 from by repeat (first | (with_reducible first | exact HI0.out | apply IsS101.alloc | apply IsS101.drewN | apply IsS101.drew | apply IsS101.set_1 | apply IsS101.set_2) | exact HI0.out)) (rS HO483.out) (by decide)) hk (fun _ h => h.2)) (fun _ h => h.1)); replace HK := mk0 (KeepBut.trans kk hk (.inl rfl)); replace HB := mk0 (hb); replace HI0 := mk0 (hi); (try clear hb); (try clear hb2); (try clear hk); (try clear hi)))
    go_meet
    case rel => exact ⟨_, (t486), (t487), (t488), sv, H', ⟨ol⟩, ⟨rS HO483.out⟩, ⟨by repeat (first | (with_reducible first | exact HI0.out | apply IsS101.alloc | apply IsS101.drewN | apply IsS101.drew | apply IsS101.set_1 | apply IsS101.set_2) | exact HI0.out)⟩, ⟨kk⟩, ⟨by repeat (first | (with_reducible first | exact HB.out | apply below_alloc | apply pw_below_drewN | apply below_drew1 | refine below_set ?_ (IsS101.ge HI0.out)) | exact HB.out)⟩⟩
  · have c5b0 : decide (0 < (t481.length : Int)) = false := decide_eq_false c5
    have c5b1 : decide (0 < t481.length) = false := decide_eq_false (by omega)
    clear c5
    (first | rw [c5b0] | (simp only [i64_w, i32_w]; rw [c5b0]) | skip)
    have H' := mk0 H
    clear H
    obtain ⟨Ao9, co9, eo9⟩ := Kd.S_slice HO483.out
    subst eo9
    go_wp2
    go_meet
    case rel => exact ⟨_, (false), (t484), (t485), sv, H', ⟨ol⟩, ⟨rS HO483.out⟩, ⟨by repeat (first | (with_reducible first | exact HI0.out | apply IsS101.alloc | apply IsS101.drewN | apply IsS101.drew | apply IsS101.set_1 | apply IsS101.set_2) | exact HI0.out)⟩, ⟨kk⟩, ⟨by repeat (first | (with_reducible first | exact HB.out | apply below_alloc | apply pw_below_drewN | apply below_drew1 | refine below_set ?_ (IsS101.ge HI0.out)) | exact HB.out)⟩⟩
 case rest =>
  clear HC3
  (try clear c5); (try clear c5b0); (try clear c5b1)
  obtain ⟨kq, x13_2, x1001_2, x1002_2, rfl, HA, HJ2, HO_3, HI0, HK, HB⟩ := hcut
  rcases kq with _ | kj2
  · exact absurd HA.out (by simp [spec_l15Any.j0])
  have H := HA.out
  clear HA
  simp only [spec_l15Any.j0] at H
  rcases ib x13_2 with rfl | rfl
  · replace H := jt H
    replace H := bd H; obtain ⟨⟨t489, t490, t491⟩, A11, H⟩ := H
    (try dsimp only at H)
    replace H := gd H; obtain ⟨c12b0, H⟩ := H
    replace H := gd H; obtain ⟨c13b0, H⟩ := H
    replace H := bd H; obtain ⟨⟨t493, t494, t495, t496, t499, t500⟩, A14, H⟩ := H
    (try dsimp only at H)
    obtain ⟨y501, Ny501⟩ := nm (t481.set (t489 : Int).toNat (⟨t493, t494, t495, t496⟩ : S32))
    rw [← Ny501.out] at H
    simp only [Option.some.injEq, Prod.mk.injEq] at H
    obtain ⟨rfl, rfl, rfl⟩ := H
    obtain ⟨Ao16, co16, eo16⟩ := Kd.S_slice HO_3.out
    subst eo16
    go_wp2_with (first | ((with_reducible refine gC 71 (some 17) rfl rfl ?_); refine gG (some 17) Try.func71 #[.pointer (some ⟨g, 0, none⟩), .int .i64 (t481.length : Int)] ?_; refine (spec_l1Below.calls g s0_0 x1001_2 x1002_2 (t481.length : Int) t489 t490 t491 w0 _ ?side1 ?side2 A11.out).mono ?_; (case side1 => repeat (first | (with_reducible first | exact HI0.out | apply IsS101.alloc | apply IsS101.drewN | apply IsS101.drew | apply IsS101.set_1 | apply IsS101.set_2) | exact HI0.out)); (case side2 => repeat (first | (with_reducible first | exact HB.out | apply below_alloc | apply pw_below_drewN | apply below_drew1 | refine below_set ?_ (IsS101.ge HI0.out)) | exact HB.out)); rintro e w17 ⟨rfl, hi, hb, hk⟩; refine ⟨_, rfl, ?_⟩; replace HO_3 := mk0 (Kd.S_mono (Kd.S_keep (IsS101.apartS (show IsS101 w0 _ g s0_0 x1001_2 x1002_2 from by repeat (first | (with_reducible first | exact HI0.out | apply IsS101.alloc | apply IsS101.drewN | apply IsS101.drew | apply IsS101.set_1 | apply IsS101.set_2) | exact HI0.out)) (rS HO_3.out) (by decide)) hk (fun _ h => h.2)) (fun _ h => h.1)); replace HK := mk0 (KeepBut.trans kk hk (.inl rfl)); replace HB := mk0 (hb); replace HI0 := mk0 (hi); clear hb hk hi; have p492 : 0 ≤ (t489 : Int) := oa; have q492 : t489 < (t481.length : Int) := oa; obtain ⟨ad492, A492_3, c492_3, e492, hx492_0, hx492_1, hx492_2, hx492_3, hl492_3, hi492_3⟩ := at_T32 (Kd.S_reads' HO_3.out).2.2 t489 p492 q492; cases e492; obtain ⟨ce492, hce492, hMe492, hcc492⟩ := Kd.S_get HO_3.out z32 t489 p492 (by first | exact q492 | exact oa | (have e_ := (Kd.S_reads' HO_3.out).1; omega)); obtain ⟨ve492_3, rfl, ge492_3⟩ := k32_openM hMe492; have hv492_3 := hcc492 3 _ rfl; rw [add_field _ _ 3 (by omega)] at hv492_3; replace hv492_3 := Option.some.inj (hv492_3.symm.trans hx492_3); rw [hv492_3] at ge492_3; have HL492_3 := mk0 (show Kd.R Kd.string 9 _ _ _ _ ((rd_T32 t481 t489).f3) from ge492_3); clear hv492_3 ge492_3; clear hcc492 hce492; have HR492_3 := mk0 hi492_3; have HC492_3 := mk0 hl492_3; clear hi492_3 hl492_3; replace p492 := eq_true p492; replace q492 := eq_true q492) | ((with_reducible refine gC 72 (some 25) rfl rfl ?_); refine gG (some 25) Try.func72 #[.pointer (some ⟨g, 0, none⟩), .agg #[.int .i64 ((rd_T32 t481 t489).f0), .string ((rd_T32 t481 t489).f1), .string ((rd_T32 t481 t489).f2), .slice A492_3 ((rd_T32 t481 t489).f3).length c492_3]] ?_; refine (spec_l15Bend.calls kj2 g s0_0 t490 t491 ((rd_T32 t481 t489).f0) ((rd_T32 t481 t489).f1) ((rd_T32 t481 t489).f2) _ _ ((rd_T32 t481 t489).f3) t493 t494 t495 t496 t499 t500 w0 _ ?side1 ?side2 ?side3 HC492_3.out ?side5 A14.out).mono ?_; (case side1 => repeat (first | (with_reducible first | exact HI0.out | apply IsS101.alloc | apply IsS101.drewN | apply IsS101.drew | apply IsS101.set_1 | apply IsS101.set_2) | exact HI0.out)); (case side2 => repeat (first | (with_reducible first | exact HB.out | apply below_alloc | apply pw_below_drewN | apply below_drew1 | refine below_set ?_ (IsS101.ge HI0.out)) | exact HB.out)); (case side3 => repeat (first | exact (by repeat (first | (with_reducible exact HR492_3.out) | (with_reducible refine Kd.C_alloc ?_ _) | (with_reducible refine Kd.C_drewN ?_ _) | (with_reducible refine Kd.C_drew ?_) | exact HR492_3.out)) | (with_reducible refine Kd.C_alloc ?_ _) | (with_reducible refine Kd.C_drewN ?_ _) | (with_reducible refine Kd.C_drew ?_))); (case side5 => (obtain ⟨_, _, hb0_, _, _⟩ := (show IsS101 w0 _ g s0_0 t490 t491 from by repeat (first | (with_reducible first | exact HI0.out | apply IsS101.alloc | apply IsS101.drewN | apply IsS101.drew | apply IsS101.set_1 | apply IsS101.set_2) | exact HI0.out)); exact Go.Proofs.Ytlekeiokdmnboaa.ApStr.far_str hb0_ (by intro u hu s; simp at hu; rcases hu with rfl | rfl | rfl <;> simp) (by repeat (first | exact (by repeat (first | (with_reducible exact HR492_3.out) | (with_reducible refine Kd.C_alloc ?_ _) | (with_reducible refine Kd.C_drewN ?_ _) | (with_reducible refine Kd.C_drew ?_) | exact HR492_3.out)) | (with_reducible refine Kd.C_alloc ?_ _) | (with_reducible refine Kd.C_drewN ?_ _) | (with_reducible refine Kd.C_drew ?_))))); rintro e w18 ⟨v497, rfl, ho0, hi, hb, hk⟩; refine ⟨_, rfl, ?_⟩; replace HO_3 := mk0 (Kd.S_mono (Kd.S_told (Kd.S_oldK (IsS101.apartS (show IsS101 w0 _ g s0_0 t490 t491 from by repeat (first | (with_reducible first | exact HI0.out | apply IsS101.alloc | apply IsS101.drewN | apply IsS101.drew | apply IsS101.set_1 | apply IsS101.set_2) | exact HI0.out)) (rS HO_3.out) (by decide)) hk) (Kd.R_base ho0)) (fun _ h_ => h_.1)); have HO498 := mk0 (Kd.R_lower (Kd.R_new' ho0 (Kd.R_lt (rr HL492_3.out))) (keep_size (w := w) (g := g) (row := none) kk)); replace HL492_3 := mk0 (Kd.R_mono (Kd.R_told (Kd.R_oldK (IsS101.apart (show IsS101 w0 _ g s0_0 t490 t491 from by repeat (first | (with_reducible first | exact HI0.out | apply IsS101.alloc | apply IsS101.drewN | apply IsS101.drew | apply IsS101.set_1 | apply IsS101.set_2) | exact HI0.out)) (rr HL492_3.out) (by decide)) hk) (Kd.R_base ho0)) (fun _ h_ => h_.1)); replace HK := mk0 (KeepBut.trans kk hk (.inl rfl)); replace HB := mk0 (hb); replace HI0 := mk0 (hi); clear hb hk hi ho0; have p15 : 0 ≤ (t489 : Int) := oa; have q15 : (t489 : Int) < ((t481.length : Int) : Int) := oa; obtain ⟨go15, co15, eo15, gb15, gl15, cl15, HG15⟩ := Kd.S_form HO_3.out (by omega); (first | cases eo15 | (injection eo15 with ea_ en_ ec_; (first | subst ea_ | (injection ea_ with ea_; subst ea_)); subst ec_; clear en_)); have GB15 := mk0 gb15; have GG15 := mk0 HG15; clear gb15 gl15 HG15; (first | simp only [add_plain] at hx492_0 | skip); (first | simp only [add_plain] at hx492_1 | skip); (first | simp only [add_plain] at hx492_2 | skip); (first | simp only [add_plain] at hx492_3 | skip); obtain ⟨_, ce15, hcl15, hM15, hcc15, hfr15, _, _⟩ := Kd.S_elem HO_3.out z32 (t489 : Int) p15 q15; obtain ⟨ve15_3, rfl, ge15_3⟩ := k32_openM hM15; have hx15_0 : w18.cell? ⟨go15, (t489 : Int).toNat * 4, none⟩ = some (.int .i64 ((rd_T32 t481 t489).f0)) := hcc15 0 _ rfl; have hx15_1 : w18.cell? ⟨go15, (t489 : Int).toNat * 4 + 1, none⟩ = some (.string ((rd_T32 t481 t489).f1)) := hcc15 1 _ rfl; have hx15_2 : w18.cell? ⟨go15, (t489 : Int).toNat * 4 + 2, none⟩ = some (.string ((rd_T32 t481 t489).f2)) := hcc15 2 _ rfl; have hx15_3 : w18.cell? ⟨go15, (t489 : Int).toNat * 4 + 3, none⟩ = some (ve15_3) := hcc15 3 _ rfl; have hf15_0 : w18.frozen? ⟨go15, (t489 : Int).toNat * 4, none⟩ = false := hfr15 0; have hf15_1 : w18.frozen? ⟨go15, (t489 : Int).toNat * 4 + 1, none⟩ = false := hfr15 1; have hf15_2 : w18.frozen? ⟨go15, (t489 : Int).toNat * 4 + 2, none⟩ = false := hfr15 2; have hf15_3 : w18.frozen? ⟨go15, (t489 : Int).toNat * 4 + 3, none⟩ = false := hfr15 3; clear hcl15 hcc15 hfr15 hM15; replace p15 := eq_true p15; replace q15 := eq_true q15; have n_ := mk0 (Kd.S_mono (ok' := (fun k_ => some k_ ≠ (v497 : Value).ownBlock)) HO_3.out (fun k_ hk => hk.2)); clear HO_3; have HO_3 := n_; clear n_; have HX19 := mk0 (show Kd.S k32 32 w18 w.heap.size (fun k_ => ((fun _ => True)) k_ ∧ ¬ ((fun k_ => some k_ = (v497 : Value).ownBlock)) k_) (.slice (some ⟨go15, 0, none⟩) t481.length co16) t481 from (by (with_reducible repeat (first | apply Kd.S_alloc | apply Kd.S_drewN | apply Kd.S_drew)); exact Kd.S_mono HO_3.out (fun k_ hk => ⟨trivial, fun e_ => hk e_⟩))); obtain ⟨oki19, ce19, hcl19, hM19, hcc19, hfr19, hoki19, hH19⟩ := Kd.S_elem HX19.out z32 (t489 : Int) oa (by have h_ : (t489 : Int) < ((t481.length : Int) : Int) := oa; first | exact h_ | (have e_ := (Kd.S_reads' HO_3.out).1; omega) | simpa using h_); obtain ⟨ve19_3, rfl, ge19_3⟩ := k32_openM hM19; have HP19 := Kd.S_seg hH19 oa (by have h_ : (t489 : Int) < ((t481.length : Int) : Int) := oa; first | exact h_ | (have e_ := (Kd.S_reads' HO_3.out).1; omega) | simpa using h_) (seg := [.int .i64 t493, .string t494, .string t495, v497]) (j := 0) (show 4 ≤ 4 from by decide) (x' := (⟨t493, t494, t495, t496⟩ : S32)) (k32_mkM _ _ _ (⟨t493, t494, t495, t496⟩ : S32) (Kd.R_mono (Kd.R_tight rfl (Kd.R_mono (ok' := fun k_ => ((fun _ => True)) k_ ∧ k_ ≠ go15) (Kd.R_apart' (HO498.out) (Kd.S_typed HO_3.out) (by decide)) (fun k_ hk => ⟨trivial, fun e_ => (hk.2) (by rw [e_]; rfl)⟩))) (fun _ h_ => Or.inr (h_)))) (fun _ hk => hk) (fun k_ hk_ => ((Kd.R_mono (ok' := fun k_ => ((fun _ => True)) k_ ∧ k_ ≠ go15) (Kd.R_apart' (HO498.out) (Kd.S_typed HO_3.out) (by decide)) (fun k_ hk => ⟨trivial, fun e_ => (hk.2) (by rw [e_]; rfl)⟩))).1 k_ hk_.symm); have hx19_0 := hcc19 0 _ rfl; (try simp only [show (k32).sz = 4 from rfl, Nat.mul_one, Nat.add_zero] at hx19_0); have hf19_0 := hfr19 0; (try simp only [show (k32).sz = 4 from rfl, Nat.mul_one, Nat.add_zero] at hf19_0); have hx19_1 := hcc19 1 _ rfl; (try simp only [show (k32).sz = 4 from rfl, Nat.mul_one, Nat.add_zero] at hx19_1); have hf19_1 := hfr19 1; (try simp only [show (k32).sz = 4 from rfl, Nat.mul_one, Nat.add_zero] at hf19_1); have hx19_2 := hcc19 2 _ rfl; (try simp only [show (k32).sz = 4 from rfl, Nat.mul_one, Nat.add_zero] at hx19_2); have hf19_2 := hfr19 2; (try simp only [show (k32).sz = 4 from rfl, Nat.mul_one, Nat.add_zero] at hf19_2); have hx19_3 := hcc19 3 _ rfl; (try simp only [show (k32).sz = 4 from rfl, Nat.mul_one, Nat.add_zero] at hx19_3); have hf19_3 := hfr19 3; (try simp only [show (k32).sz = 4 from rfl, Nat.mul_one, Nat.add_zero] at hf19_3); clear hcl19 hcc19 hfr19 hM19 hoki19 hH19) | ((with_reducible refine gate_store (t := 32) (p := 26) rfl ?_); refine store_event (t := 32) (p := 26) (v := ?vo_w20) (w1 := ((((w18.setCell ⟨go15, (t489 : Int).toNat * 4, none⟩ (.int .i64 t493)).setCell ⟨go15, (t489 : Int).toNat * 4 + 1, none⟩ (.string t494)).setCell ⟨go15, (t489 : Int).toNat * 4 + 2, none⟩ (.string t495)).setCell ⟨go15, (t489 : Int).toNat * 4 + 3, none⟩ (v497))) ?hg ?ho ?hn ?hr ?_; (case ho => rfl); (case hg => rfl); (case hn => rfl); (case hr => first | (go_simp; done) | (go_simp; rfl) | (obtain ⟨Av497_, cv497_, ev497_⟩ := Kd.R_slice HO498.out; subst ev497_; go_simp; done) | (obtain ⟨Av497_, cv497_, ev497_⟩ := Kd.R_slice HO498.out; subst ev497_; go_simp; rfl)); intro w20 hw; have hg : w18.grownBy w20 (some go15) := (by rw [hw]; exact HP19.2); have hp_ : Kd.S k32 32 w20 w.heap.size (fun _ => True) (.slice (some ⟨go15, 0, none⟩) t481.length co16) y501 := (by rw [hw, Ny501.out]; exact HP19.1); clear HP19; replace HI0 := mk0 (IsS101.grown (by repeat (first | (with_reducible first | exact HI0.out | apply IsS101.alloc | apply IsS101.drewN | apply IsS101.drew | apply IsS101.set_1 | apply IsS101.set_2) | exact HI0.out)) hg (IsS101.own_neS HI0.out HO_3.out (by decide))); replace HL492_3 := mk0 (Kd.R_after (v := (.slice (some ⟨go15, 0, none⟩) t481.length co16)) (v1 := (.slice (some ⟨go15, 0, none⟩) t481.length co16)) (ok := (fun k_ => some k_ ≠ (v497 : Value).ownBlock)) (by (with_reducible repeat (first | apply Kd.R_alloc | apply Kd.R_drewN | apply Kd.R_drew)); exact Kd.R_mono HL492_3.out (fun _ hk => ⟨hk.2, hk.1.2⟩)) hg (.inl rfl)); replace HB := mk0 ((by rw [hw]; exact below_set (below_set (below_set (below_set (HB.out) (Nat.le_trans HL.out GB15.out)) (Nat.le_trans HL.out GB15.out)) (Nat.le_trans HL.out GB15.out)) (Nat.le_trans HL.out GB15.out) : Below w0.heap.size w0 w20)); replace HK := mk0 (KeepBut.trans kk (KeepBut.of_grown hg g) (Kd.S_base2 HO_3.out)); replace HO_3 := mk0 (hp_); clear HO498; clear hg hw hp_))
    go_ret
    exact ⟨_, sw, rS HO_3.out, by repeat (first | (with_reducible first | exact HI0.out | apply IsS101.alloc | apply IsS101.drewN | apply IsS101.drew | apply IsS101.set_1 | apply IsS101.set_2) | exact HI0.out), by repeat (first | (with_reducible first | exact HB.out | apply below_alloc | apply pw_below_drewN | apply below_drew1 | refine below_set ?_ (IsS101.ge HI0.out)) | exact HB.out), kk⟩
  · replace H := jf H
    simp only [Option.some.injEq, Prod.mk.injEq] at H
    obtain ⟨rfl, rfl, rfl⟩ := H
    go_wp2
    go_ret
    exact ⟨_, sw, rS HO_3.out, by repeat (first | (with_reducible first | exact HI0.out | apply IsS101.alloc | apply IsS101.drewN | apply IsS101.drew | apply IsS101.set_1 | apply IsS101.set_2) | exact HI0.out), by repeat (first | (with_reducible first | exact HB.out | apply below_alloc | apply pw_below_drewN | apply below_drew1 | refine below_set ?_ (IsS101.ge HI0.out)) | exact HB.out), kk⟩
/-! ### spec_DrawChainOk: function 19 -/
def spec_DrawChainOk.f (k : Nat) (l0 : List Int) : Option ((List (S32))) := (spec_l1New.f k l0).bind fun bt502 => ((spec_l15Any.f k bt502.1 bt502.2.1 bt502.2.2).bind fun bt506 => (some bt506.1))
theorem spec_DrawChainOk.mono : ∀ a0 k, LeO (spec_DrawChainOk.f k a0) (spec_DrawChainOk.f (k + 1) a0) := by
  intro a0 k
  unfold spec_DrawChainOk.f
  have m0 := @spec_l15Any.mono
  have m1 := @spec_l1New.mono
  exact me
theorem spec_DrawChainOk.calls (k : Nat) (A0 : Option Addr) (c0 : Nat) (l0 : List Int) (r : List (S32)) (w : World) (hr0 : Kd.C (Kd.int .u8) w A0 l0.length l0) (hc0 : l0.length ≤ c0) (h : spec_DrawChainOk.f k l0 = some r) :
    Calls Try.prog 19 #[.slice A0 l0.length c0] w fun e w' => ∃ v0_ : Value, e = .returned (v0_) ∧ Kd.S k32 32 w' w.heap.size (fun _ => True) v0_ r ∧ Below w.heap.size w w' := by
 have HR0 := mk0 hr0
 have HC0 := mk0 hc0
 clear hr0 hc0
 have HB := mk0 (Below.refl w.heap.size w)
 have H : ((spec_l1New.f k l0).bind fun bt502 => ((spec_l15Any.f k bt502.1 bt502.2.1 bt502.2.2).bind fun bt506 => (some bt506.1))) = some r := h
 clear h
 replace H := bd H; obtain ⟨⟨t502, t503, t504⟩, A2, H⟩ := H
 (try dsimp only at H)
 replace H := bd H; obtain ⟨⟨t506, t509, t510⟩, A3, H⟩ := H
 (try dsimp only at H)
 obtain rfl := Option.some.inj H
 go_enter Try.func19, Try.ntmps19
 go_wp2_with (first | ((with_reducible refine gC 43 (some 5) rfl rfl ?_); refine gG (some 5) Try.func43 #[.slice A0 l0.length c0] ?_; refine (spec_l1New.calls k _ _ l0 t502 t503 t504 w _ bw HR0.out HC0.out A2.out).mono ?_; rintro e w4 ⟨g505, rfl, hi, hb, hb2⟩; refine ⟨_, rfl, ?_⟩; replace HB := mk0 (hb); have HI505 := mk0 (hi); clear hb hb2 hi) | ((with_reducible refine gC 44 (some 7) rfl rfl ?_); refine gG (some 7) Try.func44 #[.pointer (some ⟨g505, 0, none⟩)] ?_; refine (spec_l15Any.calls k g505 t502 t503 t504 t506 t509 t510 w _ ?side1 ?side2 A3.out).mono ?_; (case side1 => repeat (first | (with_reducible first | exact HI505.out | apply IsS101.alloc | apply IsS101.drewN | apply IsS101.drew | apply IsS101.set_1 | apply IsS101.set_2) | exact HI505.out)); (case side2 => repeat (first | (with_reducible first | exact HB.out | apply below_alloc | apply pw_below_drewN | apply below_drew1 | refine below_set ?_ (IsS101.ge HI505.out)) | exact HB.out)); rintro e w5 ⟨v507, rfl, ho0, hi, hb, hk⟩; refine ⟨_, rfl, ?_⟩; have HO508 := mk0 (Kd.S_lower ho0 (below_size (by repeat (first | (with_reducible first | exact HB.out | apply below_alloc | apply pw_below_drewN | apply below_drew1 | refine below_set ?_ (IsS101.ge HI505.out)) | exact HB.out)))); replace HB := mk0 (hb); replace HI505 := mk0 (hi); clear hb hk hi ho0))
 go_ret
 exact ⟨_, sw, rS HO508.out, by repeat (first | (with_reducible first | exact HB.out | apply below_alloc | apply pw_below_drewN | apply below_drew1 | refine below_set ?_ (IsS101.ge HI505.out)) | exact HB.out)⟩
end Go.Proofs.Ytlekeiokdmnboaa.Pa
end

section
namespace Go.Proofs.Ytlekeiokdmnboaa.Pa
open Go.RowKit Go.Proofs.YtlekeiokdmnboaaW.PrintWords Go.Proofs.YtlekeiokdmnboaaW.PrintLast Go.Proofs.YtlekeiokdmnboaaW.PrintMore Go.Proofs.Ytlekeiokdmnboaa.M
attribute [local go_sem] max2_int min2_int max_two min_two max_three min_three max_four min_four   -- for this text's walks alone
set_option linter.unusedVariables false
set_option maxHeartbeats 8000000
set_option maxRecDepth 100000
set_option linter.unusedSimpArgs false

/-! ### impl_ChainOk: function 20 -/
def impl_ChainOk.l0 : Nat → List (S32) → List (S32) → Int → Int → Option (Bool)
  | 0, _, _, _, _ => none
  | k + 1, x0, x5, x6, x7 => if x7 < x6 then (if 0 ≤ x7 then (if x7 < (x5.length : Int) then ((impl_SealOk.f k ((rd_T32 x5 x7).f0) ((rd_T32 x5 x7).f1) ((rd_T32 x5 x7).f2) ((rd_T32 x5 x7).f3)).bind fun t515 => (if t515 = true then (if ((rd_T32 x5 x7).f0) = (wrap64 (x7 + 1)) then (if x7 ≤ (x0.length : Int) then ((impl_prevOf.f k (x0.take (x7 : Int).toNat)).bind fun t520 => (if ((rd_T32 x5 x7).f1).toList = t520.toList then (impl_ChainOk.l0 k x0 x5 x6 (wrap64 (x7 + 1))) else (some false))) else (none)) else (some false)) else (some false))) else (none)) else (none)) else (some (decide ((x0.length : Int) ≤ 1000)))
def impl_ChainOk.f (k : Nat) (l0 : List (S32)) : Option (Bool) := impl_ChainOk.l0 k l0 l0 (l0.length : Int) 0
theorem impl_ChainOk.mono_l : ∀ k, (∀ y0 y1 y2 y3, LeO (impl_ChainOk.l0 k y0 y1 y2 y3) (impl_ChainOk.l0 (k + 1) y0 y1 y2 y3))
  | 0 => fun _ _ _ _ r h => by simp [impl_ChainOk.l0] at h
  | k + 1 => by
    have ih0 := impl_ChainOk.mono_l k
    · intro y0 y1 y2 y3
      unfold impl_ChainOk.l0
      have m0 := @impl_SealOk.mono
      have m1 := @impl_prevOf.mono
      exact me
theorem impl_ChainOk.mono : ∀ a0 k, LeO (impl_ChainOk.f k a0) (impl_ChainOk.f (k + 1) a0) := by
  intro a0 k
  have ih0 := impl_ChainOk.mono_l k
  unfold impl_ChainOk.f
  have m0 := @impl_SealOk.mono
  have m1 := @impl_prevOf.mono
  exact me
def impl_ChainOk.T4 : Bool × List (List Nat × List Nat) := (true, [([], []), ([0], [0]), ([1], [1]), ([2, 1], [2]), ([3], [3]), ([4, 3], [3, 4]), ([3], [3]), ([6, 3], [3, 6]), ([5, 7, 3], [3, 5, 7]), ([3, 8], [3, 8]), ([9, 3], [9]), ([10], [10]), ([11, 10], [10, 11]), ([10], [10]), ([10], [10]), ([13, 14, 10], [10, 13, 14]), ([15, 10, 10], [10, 15]), ([12, 16, 10], [10, 12, 16]), ([10, 17], [10, 17])])
def impl_ChainOk.B4 : List Nat := [0, 1, 3, 7, 15, 31, 15, 79, 255, 511, 1023, 2047, 4095, 2047, 2047, 26623, 59391, 131071, 262143]
theorem impl_ChainOk.tab4 : rtab .any (opsOf Try.f20 4) = impl_ChainOk.T4 := by kernel_rfl
theorem impl_ChainOk.bits4 : waitsOk impl_ChainOk.T4.2 impl_ChainOk.B4 = true := by kernel_rfl
theorem impl_ChainOk.calls (k : Nat) (A0 : Option Addr) (c0 : Nat) (l0 : List (S32)) (r : Bool) (w : World) (hr0 : Kd.C k32 w A0 l0.length l0) (hc0 : l0.length ≤ c0) (h : impl_ChainOk.f k l0 = some r) :
    Calls Try.prog 20 #[.slice A0 l0.length c0] w fun e w' => e = .returned (.bool r) ∧ Below w.heap.size w w' := by
 have hu32 := Try.underlying32
 have HR0 := mk0 hr0
 have HC0 := mk0 hc0
 clear hr0 hc0
 have HB := mk0 (Below.refl w.heap.size w)
 have H : (impl_ChainOk.l0 k l0 l0 (l0.length : Int) 0) = some r := h
 clear h
 have H' := mk0 H
 clear H
 go_enter Try.func20, Try.ntmps20
 go_wp2
 go_loopg [7] k (fun kq v7 w' => ∃ (x7_1 : Int), v7 = .int .i64 x7_1 ∧ Aside0 (impl_ChainOk.l0 kq l0 l0 (l0.length : Int) x7_1 = some r) ∧ Aside0 (kq ≤ k) ∧ Aside0 (Below w.heap.size w w'))
 case atStart => exact ⟨(0), sv, H', nl, ⟨bw⟩⟩
 case round =>
  clear H'
  obtain ⟨x7_1, rfl, HA, HK1, HB⟩ := hrel
  rcases gk with _ | k1
  · exact absurd HA.out (by simp [impl_ChainOk.l0])
  have H := HA.out
  clear HA
  simp only [impl_ChainOk.l0] at H
  replace H := idd H; rcases H with ⟨c2b0, H⟩ | ⟨c2b0, H⟩
  · replace H := gd H; obtain ⟨c3b0, H⟩ := H
    replace H := gd H; obtain ⟨c4b0, H⟩ := H
    replace H := bd H; obtain ⟨t515, A5, H⟩ := H
    rcases ib t515 with rfl | rfl
    · replace H := jt H
      replace H := iq H; rcases H with ⟨c7b0, c7b1, H⟩ | ⟨c7, c7b0, c7b1, H⟩
      · have c8b0 := eq_true (oa : 0 ≤ x7_1)
        replace H := ge H; obtain ⟨c9b0, c9b1, H⟩ := H
        obtain ⟨y516, Ny516⟩ := nm (l0.take (x7_1 : Int).toNat)
        rw [← Ny516.out] at H
        replace H := bd H; obtain ⟨t520, A10, H⟩ := H
        replace H := it H; rcases H with ⟨c11b0, c11b1, H⟩ | ⟨c11, c11b0, c11b1, H⟩
        · have H' := mk0 H
          clear H
          have p513 : 0 ≤ (x7_1 : Int) := oa
          have q513 : x7_1 < (l0.length : Int) := oa
          obtain ⟨ad513, A513_3, c513_3, e513, hx513_0, hx513_1, hx513_2, hx513_3, hl513_3, hi513_3⟩ := at_T32 HR0.out x7_1 p513 q513
          cases e513
          replace hx513_0 := hc HB hx513_0
          replace hx513_1 := hc HB hx513_1
          replace hx513_2 := hc HB hx513_2
          replace hx513_3 := hc HB hx513_3
          have HR513_3 := mk0 hi513_3
          have HC513_3 := mk0 hl513_3
          clear hi513_3 hl513_3
          replace p513 := eq_true p513
          replace q513 := eq_true q513
          try go_wp2_with (first | ((with_reducible refine gD 4 rfl ?_); refine bx 4 #[.int .i64 0, .string (⟨#[]⟩ : ByteArray), .string (⟨#[]⟩ : ByteArray), .slice none 0 0] 32 bw ?_; clear HB; intro gb514 w12 BK514 GW514 HB; obtain ⟨hcz13_0, hcz13_1, hcz13_2, hcz13_3, hfz13_0, hfz13_1, hfz13_2, hfz13_3⟩ := z4 BK514))
          refine cp4 BK514 GW514 HB ?_; clear BK514 HB; intro w14 BK514 HB
          replace BK514 := mk0 (blk_drew BK514.out)
          replace HB := mk0 (below_drew1 HB.out)
          refine st 19 impl_ChainOk.tab4 impl_ChainOk.bits4 (b4 BK514 n_) (fun hHeld HT_ HW_ => ?_)
          generalize w14.drew = w15 at BK514 HB hHeld ⊢
          refine tk 0 (some 12) HT_ HW_ hHeld ?_
          refine on 1 (some 13) HT_ (fun K hK => ?_)
          refine oB Try.func16 #[.agg #[.int .i64 ((rd_T32 l0 x7_1).f0), .string ((rd_T32 l0 x7_1).f1), .string ((rd_T32 l0 x7_1).f2), .slice A513_3 ((rd_T32 l0 x7_1).f3).length c513_3]] (impl_SealOk.calls k1 ((rd_T32 l0 x7_1).f0) ((rd_T32 l0 x7_1).f1) ((rd_T32 l0 x7_1).f2) _ _ ((rd_T32 l0 x7_1).f3) true _ (cc (Kd.C_below HR513_3.out HB.out)) HC513_3.out A5.out) ?_
          intro w16 hb
          replace BK514 := mk0 (blk_below (kb BK514.out) hb)
          replace HB := mk0 (below_step (bg GW514) hb)
          (try clear hb)
          have q17 : (x7_1 : Int) ≤ ((l0.length : Int) : Int) := oa
          obtain ⟨i017, hi017, _, hsz17, _⟩ := info_parts info32
          have hroom17 : l0.length ≤ c0 := HC0.out
          have hC17 : Kd.C k32 _ (some ad513) l0.length l0 := HR0.out
          have hcut17 := cut_to (P := Try.prog) 38 32 .i64 Try.underlying38 hi017 (some ad513) l0.length c0 x7_1 oa q17 hroom17
          have hr17 := Kd.C_take (m := (x7_1 : Int).toNat) hC17 (by omega)
          have hy17 : y516.length = (x7_1 : Int).toNat := (by rw [Ny516.out, List.length_take]; omega)
          rw [← Ny516.out] at hr17
          rw [← hy17] at hcut17
          have HR519 := mk0 hr17
          have HC519 := mk0 (show y516.length ≤ c0 from by omega)
          clear hr17 hC17 hroom17 hi017 hsz17
          have KY17 := mk0 hy17
          clear hy17
          replace q17 := eq_true q17
          refine hK.out _ _ ah (fun hHeld => ?_)
          clear hK K
          refine nr (some 13) ?_
          refine pu 2 (some 14) HT_ ?_
          refine pu 3 (some 15) HT_ ?_
          refine pu 4 (some 16) HT_ ?_
          refine pu 6 (some 18) HT_ ?_
          refine pu 7 (some 19) HT_ ?_
          refine tk 5 (some 17) HT_ HW_ hHeld ?_
          refine pu 8 (some 20) HT_ ?_
          refine pu 9 (some 21) HT_ ?_
          refine pu 10 (some 22) HT_ ?_
          refine pu 11 (some 23) HT_ ?_
          refine pu 13 (some 25) HT_ ?_
          refine pu 14 (some 26) HT_ ?_
          refine pu 15 (some 27) HT_ ?_
          refine tk 12 (some 24) HT_ HW_ hHeld ?_
          refine on 16 (some 28) HT_ (fun K hK => ?_)
          refine oB Try.func45 #[.slice (some ad513) y516.length c0] (impl_prevOf.calls k1 _ _ y516 t520 _ (cc (Kd.C_below HR519.out HB.out)) HC519.out A10.out) ?_
          intro w18 hb
          replace BK514 := mk0 (blk_below (kb BK514.out) hb)
          replace HB := mk0 (below_step (bg GW514) hb)
          (try clear hb)
          refine hK.out _ _ ah (fun hHeld => ?_)
          clear hK K
          refine nr (some 28) ?_
          refine pu 17 (some 29) HT_ ?_
          refine pu 18 (some 30) HT_ ?_
          refine dn HT_ ?_
          try go_wp2
          go_roundg k1
          case measure => have := HK1.out; omega
          case rel => exact ⟨(wrap64 (x7_1 + 1)), sv, H', hk1, ⟨(bg GW514)⟩⟩
        · obtain rfl := Option.some.inj H
          have p513 : 0 ≤ (x7_1 : Int) := oa
          have q513 : x7_1 < (l0.length : Int) := oa
          obtain ⟨ad513, A513_3, c513_3, e513, hx513_0, hx513_1, hx513_2, hx513_3, hl513_3, hi513_3⟩ := at_T32 HR0.out x7_1 p513 q513
          cases e513
          replace hx513_0 := hc HB hx513_0
          replace hx513_1 := hc HB hx513_1
          replace hx513_2 := hc HB hx513_2
          replace hx513_3 := hc HB hx513_3
          have HR513_3 := mk0 hi513_3
          have HC513_3 := mk0 hl513_3
          clear hi513_3 hl513_3
          replace p513 := eq_true p513
          replace q513 := eq_true q513
          try go_wp2_with (first | ((with_reducible refine gD 4 rfl ?_); refine bx 4 #[.int .i64 0, .string (⟨#[]⟩ : ByteArray), .string (⟨#[]⟩ : ByteArray), .slice none 0 0] 32 bw ?_; clear HB; intro gb514 w19 BK514 GW514 HB; obtain ⟨hcz20_0, hcz20_1, hcz20_2, hcz20_3, hfz20_0, hfz20_1, hfz20_2, hfz20_3⟩ := z4 BK514))
          refine cp4 BK514 GW514 HB ?_; clear BK514 HB; intro w21 BK514 HB
          replace BK514 := mk0 (blk_drew BK514.out)
          replace HB := mk0 (below_drew1 HB.out)
          refine st 19 impl_ChainOk.tab4 impl_ChainOk.bits4 (b4 BK514 n_) (fun hHeld HT_ HW_ => ?_)
          generalize w21.drew = w22 at BK514 HB hHeld ⊢
          refine tk 0 (some 12) HT_ HW_ hHeld ?_
          refine on 1 (some 13) HT_ (fun K hK => ?_)
          refine oB Try.func16 #[.agg #[.int .i64 ((rd_T32 l0 x7_1).f0), .string ((rd_T32 l0 x7_1).f1), .string ((rd_T32 l0 x7_1).f2), .slice A513_3 ((rd_T32 l0 x7_1).f3).length c513_3]] (impl_SealOk.calls k1 ((rd_T32 l0 x7_1).f0) ((rd_T32 l0 x7_1).f1) ((rd_T32 l0 x7_1).f2) _ _ ((rd_T32 l0 x7_1).f3) true _ (cc (Kd.C_below HR513_3.out HB.out)) HC513_3.out A5.out) ?_
          intro w23 hb
          replace BK514 := mk0 (blk_below (kb BK514.out) hb)
          replace HB := mk0 (below_step (bg GW514) hb)
          (try clear hb)
          have q24 : (x7_1 : Int) ≤ ((l0.length : Int) : Int) := oa
          obtain ⟨i024, hi024, _, hsz24, _⟩ := info_parts info32
          have hroom24 : l0.length ≤ c0 := HC0.out
          have hC24 : Kd.C k32 _ (some ad513) l0.length l0 := HR0.out
          have hcut24 := cut_to (P := Try.prog) 38 32 .i64 Try.underlying38 hi024 (some ad513) l0.length c0 x7_1 oa q24 hroom24
          have hr24 := Kd.C_take (m := (x7_1 : Int).toNat) hC24 (by omega)
          have hy24 : y516.length = (x7_1 : Int).toNat := (by rw [Ny516.out, List.length_take]; omega)
          rw [← Ny516.out] at hr24
          rw [← hy24] at hcut24
          have HR519 := mk0 hr24
          have HC519 := mk0 (show y516.length ≤ c0 from by omega)
          clear hr24 hC24 hroom24 hi024 hsz24
          have KY24 := mk0 hy24
          clear hy24
          replace q24 := eq_true q24
          refine hK.out _ _ ah (fun hHeld => ?_)
          clear hK K
          refine nr (some 13) ?_
          refine pu 2 (some 14) HT_ ?_
          refine pu 3 (some 15) HT_ ?_
          refine pu 4 (some 16) HT_ ?_
          refine pu 6 (some 18) HT_ ?_
          refine pu 7 (some 19) HT_ ?_
          refine tk 5 (some 17) HT_ HW_ hHeld ?_
          refine pu 8 (some 20) HT_ ?_
          refine pu 9 (some 21) HT_ ?_
          refine pu 10 (some 22) HT_ ?_
          refine pu 11 (some 23) HT_ ?_
          refine pu 13 (some 25) HT_ ?_
          refine pu 14 (some 26) HT_ ?_
          refine pu 15 (some 27) HT_ ?_
          refine tk 12 (some 24) HT_ HW_ hHeld ?_
          refine on 16 (some 28) HT_ (fun K hK => ?_)
          refine oB Try.func45 #[.slice (some ad513) y516.length c0] (impl_prevOf.calls k1 _ _ y516 t520 _ (cc (Kd.C_below HR519.out HB.out)) HC519.out A10.out) ?_
          intro w25 hb
          replace BK514 := mk0 (blk_below (kb BK514.out) hb)
          replace HB := mk0 (below_step (bg GW514) hb)
          (try clear hb)
          refine hK.out _ _ ah (fun hHeld => ?_)
          clear hK K
          refine nr (some 28) ?_
          refine pu 17 (some 29) HT_ ?_
          refine pu 18 (some 30) HT_ ?_
          refine dn HT_ ?_
          try go_wp2
          go_ret
          exact ⟨sw, (bg GW514)⟩
      · obtain rfl := Option.some.inj H
        have p513 : 0 ≤ (x7_1 : Int) := oa
        have q513 : x7_1 < (l0.length : Int) := oa
        obtain ⟨ad513, A513_3, c513_3, e513, hx513_0, hx513_1, hx513_2, hx513_3, hl513_3, hi513_3⟩ := at_T32 HR0.out x7_1 p513 q513
        cases e513
        replace hx513_0 := hc HB hx513_0
        replace hx513_1 := hc HB hx513_1
        replace hx513_2 := hc HB hx513_2
        replace hx513_3 := hc HB hx513_3
        have HR513_3 := mk0 hi513_3
        have HC513_3 := mk0 hl513_3
        clear hi513_3 hl513_3
        replace p513 := eq_true p513
        replace q513 := eq_true q513
        try go_wp2_with (first | ((with_reducible refine gD 4 rfl ?_); refine bx 4 #[.int .i64 0, .string (⟨#[]⟩ : ByteArray), .string (⟨#[]⟩ : ByteArray), .slice none 0 0] 32 bw ?_; clear HB; intro gb514 w26 BK514 GW514 HB; obtain ⟨hcz27_0, hcz27_1, hcz27_2, hcz27_3, hfz27_0, hfz27_1, hfz27_2, hfz27_3⟩ := z4 BK514))
        refine cp4 BK514 GW514 HB ?_; clear BK514 HB; intro w28 BK514 HB
        replace BK514 := mk0 (blk_drew BK514.out)
        replace HB := mk0 (below_drew1 HB.out)
        refine st 19 impl_ChainOk.tab4 impl_ChainOk.bits4 (b4 BK514 n_) (fun hHeld HT_ HW_ => ?_)
        generalize w28.drew = w29 at BK514 HB hHeld ⊢
        refine tk 0 (some 12) HT_ HW_ hHeld ?_
        refine on 1 (some 13) HT_ (fun K hK => ?_)
        refine oB Try.func16 #[.agg #[.int .i64 ((rd_T32 l0 x7_1).f0), .string ((rd_T32 l0 x7_1).f1), .string ((rd_T32 l0 x7_1).f2), .slice A513_3 ((rd_T32 l0 x7_1).f3).length c513_3]] (impl_SealOk.calls k1 ((rd_T32 l0 x7_1).f0) ((rd_T32 l0 x7_1).f1) ((rd_T32 l0 x7_1).f2) _ _ ((rd_T32 l0 x7_1).f3) true _ (cc (Kd.C_below HR513_3.out HB.out)) HC513_3.out A5.out) ?_
        intro w30 hb
        replace BK514 := mk0 (blk_below (kb BK514.out) hb)
        replace HB := mk0 (below_step (bg GW514) hb)
        (try clear hb)
        refine hK.out _ _ ah (fun hHeld => ?_)
        clear hK K
        refine nr (some 13) ?_
        refine pu 2 (some 14) HT_ ?_
        refine pu 3 (some 15) HT_ ?_
        refine pu 4 (some 16) HT_ ?_
        refine pu 6 (some 18) HT_ ?_
        refine pu 7 (some 19) HT_ ?_
        refine tk 5 (some 17) HT_ HW_ hHeld ?_
        refine pu 8 (some 20) HT_ ?_
        refine pu 9 (some 21) HT_ ?_
        refine pu 10 (some 22) HT_ ?_
        refine un 11 (some 23) HT_ ?_
        refine un 12 (some 24) HT_ ?_
        refine un 13 (some 25) HT_ ?_
        refine un 14 (some 26) HT_ ?_
        refine un 15 (some 27) HT_ ?_
        refine un 16 (some 28) HT_ ?_
        refine un 17 (some 29) HT_ ?_
        refine pu 18 (some 30) HT_ ?_
        refine dn HT_ ?_
        try go_wp2
        go_ret
        exact ⟨sw, (bg GW514)⟩
    · replace H := jf H
      obtain rfl := Option.some.inj H
      have p513 : 0 ≤ (x7_1 : Int) := oa
      have q513 : x7_1 < (l0.length : Int) := oa
      obtain ⟨ad513, A513_3, c513_3, e513, hx513_0, hx513_1, hx513_2, hx513_3, hl513_3, hi513_3⟩ := at_T32 HR0.out x7_1 p513 q513
      cases e513
      replace hx513_0 := hc HB hx513_0
      replace hx513_1 := hc HB hx513_1
      replace hx513_2 := hc HB hx513_2
      replace hx513_3 := hc HB hx513_3
      have HR513_3 := mk0 hi513_3
      have HC513_3 := mk0 hl513_3
      clear hi513_3 hl513_3
      replace p513 := eq_true p513
      replace q513 := eq_true q513
      try go_wp2_with (first | ((with_reducible refine gD 4 rfl ?_); refine bx 4 #[.int .i64 0, .string (⟨#[]⟩ : ByteArray), .string (⟨#[]⟩ : ByteArray), .slice none 0 0] 32 bw ?_; clear HB; intro gb514 w31 BK514 GW514 HB; obtain ⟨hcz32_0, hcz32_1, hcz32_2, hcz32_3, hfz32_0, hfz32_1, hfz32_2, hfz32_3⟩ := z4 BK514))
      refine cp4 BK514 GW514 HB ?_; clear BK514 HB; intro w33 BK514 HB
      replace BK514 := mk0 (blk_drew BK514.out)
      replace HB := mk0 (below_drew1 HB.out)
      refine st 19 impl_ChainOk.tab4 impl_ChainOk.bits4 (b4 BK514 n_) (fun hHeld HT_ HW_ => ?_)
      generalize w33.drew = w34 at BK514 HB hHeld ⊢
      refine tk 0 (some 12) HT_ HW_ hHeld ?_
      refine on 1 (some 13) HT_ (fun K hK => ?_)
      refine oB Try.func16 #[.agg #[.int .i64 ((rd_T32 l0 x7_1).f0), .string ((rd_T32 l0 x7_1).f1), .string ((rd_T32 l0 x7_1).f2), .slice A513_3 ((rd_T32 l0 x7_1).f3).length c513_3]] (impl_SealOk.calls k1 ((rd_T32 l0 x7_1).f0) ((rd_T32 l0 x7_1).f1) ((rd_T32 l0 x7_1).f2) _ _ ((rd_T32 l0 x7_1).f3) false _ (cc (Kd.C_below HR513_3.out HB.out)) HC513_3.out A5.out) ?_
      intro w35 hb
      replace BK514 := mk0 (blk_below (kb BK514.out) hb)
      replace HB := mk0 (below_step (bg GW514) hb)
      (try clear hb)
      refine hK.out _ _ ah (fun hHeld => ?_)
      clear hK K
      refine nr (some 13) ?_
      refine pu 2 (some 14) HT_ ?_
      refine pu 3 (some 15) HT_ ?_
      refine un 4 (some 16) HT_ ?_
      refine un 5 (some 17) HT_ ?_
      refine un 6 (some 18) HT_ ?_
      refine un 7 (some 19) HT_ ?_
      refine un 8 (some 20) HT_ ?_
      refine pu 9 (some 21) HT_ ?_
      refine pu 10 (some 22) HT_ ?_
      refine un 11 (some 23) HT_ ?_
      refine un 12 (some 24) HT_ ?_
      refine un 13 (some 25) HT_ ?_
      refine un 14 (some 26) HT_ ?_
      refine un 15 (some 27) HT_ ?_
      refine un 16 (some 28) HT_ ?_
      refine un 17 (some 29) HT_ ?_
      refine pu 18 (some 30) HT_ ?_
      refine dn HT_ ?_
      try go_wp2
      go_ret
      exact ⟨sw, (bg GW514)⟩
  · obtain rfl := Option.some.inj H
    go_wp2
    go_ret
    exact ⟨sw, bw⟩
end Go.Proofs.Ytlekeiokdmnboaa.Pa
end

section
namespace Go.Proofs.Ytlekeiokdmnboaa.Pa
open Go.RowKit Go.Proofs.YtlekeiokdmnboaaW.PrintWords Go.Proofs.YtlekeiokdmnboaaW.PrintLast Go.Proofs.YtlekeiokdmnboaaW.PrintMore Go.Proofs.Ytlekeiokdmnboaa.M
attribute [local go_sem] max2_int min2_int max_two min_two max_three min_three max_four min_four   -- for this text's walks alone
set_option linter.unusedVariables false
set_option maxHeartbeats 8000000
set_option maxRecDepth 100000
set_option linter.unusedSimpArgs false

/-! ### spec_ChainOk: function 21 -/
def spec_ChainOk.l0 : Nat → List (S32) → Int → Option (Bool)
  | 0, _, _ => none
  | k + 1, x0, x3 => if x3 < (x0.length : Int) then (if 0 ≤ x3 then ((spec_SealOk.f k ((rd_T32 x0 x3).f0) ((rd_T32 x0 x3).f1) ((rd_T32 x0 x3).f2) ((rd_T32 x0 x3).f3)).bind fun t522 => (if t522 = true then (if ((rd_T32 x0 x3).f0) = (wrap64 (x3 + 1)) then (if x3 ≤ (x0.length : Int) then ((spec_l15Prev.f k (x0.take (x3 : Int).toNat)).bind fun t529 => (if ((rd_T32 x0 x3).f1).toList = t529.toList then (spec_ChainOk.l0 k x0 (wrap64 (x3 + 1))) else (some false))) else (none)) else (some false)) else (some false))) else (none)) else (some (decide ((x0.length : Int) ≤ 1000)))
def spec_ChainOk.f (k : Nat) (l0 : List (S32)) : Option (Bool) := spec_ChainOk.l0 k l0 0
theorem spec_ChainOk.mono_l : ∀ k, (∀ y0 y1, LeO (spec_ChainOk.l0 k y0 y1) (spec_ChainOk.l0 (k + 1) y0 y1))
  | 0 => fun _ _ r h => by simp [spec_ChainOk.l0] at h
  | k + 1 => by
    have ih0 := spec_ChainOk.mono_l k
    · intro y0 y1
      unfold spec_ChainOk.l0
      have m0 := @spec_SealOk.mono
      have m1 := @spec_l15Prev.mono
      exact me
theorem spec_ChainOk.mono : ∀ a0 k, LeO (spec_ChainOk.f k a0) (spec_ChainOk.f (k + 1) a0) := by
  intro a0 k
  have ih0 := spec_ChainOk.mono_l k
  unfold spec_ChainOk.f
  have m0 := @spec_SealOk.mono
  have m1 := @spec_l15Prev.mono
  exact me
def spec_ChainOk.T4 : Bool × List (List Nat × List Nat) := (true, [([], []), ([], []), ([0, 1], [0, 1]), ([2], [2]), ([3], [3]), ([4], [4]), ([5, 4], [5]), ([6], [6]), ([6], [6]), ([7, 8, 6], [6, 7, 8]), ([9, 6], [6, 9]), ([10, 6], [6, 10]), ([6], [6]), ([12, 6], [6, 12]), ([11, 13, 6], [6, 11, 13]), ([6, 14], [6, 14]), ([15, 6], [15]), ([16], [16]), ([16], [16]), ([17, 18, 16], [16, 17, 18]), ([19, 16], [16, 19]), ([20, 16], [16, 20]), ([16], [16]), ([16], [16]), ([22, 23, 16], [16, 22, 23]), ([24, 16, 16], [16, 24]), ([21, 25, 16], [16, 21, 25]), ([16, 26], [16, 26])])
def spec_ChainOk.B4 : List Nat := [0, 0, 3, 7, 15, 31, 63, 127, 127, 511, 1023, 2047, 127, 4223, 16383, 32767, 65535, 131071, 131071, 524287, 1048575, 2097151, 131071, 131071, 12713983, 29491199, 67108863, 134217727]
theorem spec_ChainOk.tab4 : rtab .any (opsOf Try.f21 4) = spec_ChainOk.T4 := by kernel_rfl
theorem spec_ChainOk.bits4 : waitsOk spec_ChainOk.T4.2 spec_ChainOk.B4 = true := by kernel_rfl
theorem spec_ChainOk.calls (k : Nat) (A0 : Option Addr) (c0 : Nat) (l0 : List (S32)) (r : Bool) (w : World) (hr0 : Kd.C k32 w A0 l0.length l0) (hc0 : l0.length ≤ c0) (h : spec_ChainOk.f k l0 = some r) :
    Calls Try.prog 21 #[.slice A0 l0.length c0] w fun e w' => e = .returned (.bool r) ∧ Below w.heap.size w w' := by
 have hu32 := Try.underlying32
 have HR0 := mk0 hr0
 have HC0 := mk0 hc0
 clear hr0 hc0
 have HB := mk0 (Below.refl w.heap.size w)
 have H : (spec_ChainOk.l0 k l0 0) = some r := h
 clear h
 have H' := mk0 H
 clear H
 go_enter Try.func21, Try.ntmps21
 go_wp2
 go_loopg [3] k (fun kq v3 w' => ∃ (x3_1 : Int), v3 = .int .i64 x3_1 ∧ Aside0 (spec_ChainOk.l0 kq l0 x3_1 = some r) ∧ Aside0 (kq ≤ k) ∧ Aside0 (Below w.heap.size w w'))
 case atStart => exact ⟨(0), sv, H', nl, ⟨bw⟩⟩
 case round =>
  clear H'
  obtain ⟨x3_1, rfl, HA, HK1, HB⟩ := hrel
  rcases gk with _ | k1
  · exact absurd HA.out (by simp [spec_ChainOk.l0])
  have H := HA.out
  clear HA
  simp only [spec_ChainOk.l0] at H
  replace H := idd H; rcases H with ⟨c2b0, H⟩ | ⟨c2b0, H⟩
  · replace H := gd H; obtain ⟨c3b0, H⟩ := H
    replace H := bd H; obtain ⟨t522, A4, H⟩ := H
    rcases ib t522 with rfl | rfl
    · replace H := jt H
      replace H := iq H; rcases H with ⟨c6b0, c6b1, H⟩ | ⟨c6, c6b0, c6b1, H⟩
      · have c7b0 := eq_true (oa : 0 ≤ x3_1)
        replace H := ge H; obtain ⟨c8b0, c8b1, H⟩ := H
        obtain ⟨y525, Ny525⟩ := nm (l0.take (x3_1 : Int).toNat)
        rw [← Ny525.out] at H
        replace H := bd H; obtain ⟨t529, A9, H⟩ := H
        replace H := it H; rcases H with ⟨c10b0, c10b1, H⟩ | ⟨c10, c10b0, c10b1, H⟩
        · have H' := mk0 H
          clear H
          try go_wp2
          replace HB := mk0 (below_drew1 HB.out)
          have p521 : 0 ≤ (x3_1 : Int) := oa
          have q521 : x3_1 < (l0.length : Int) := oa
          obtain ⟨ad521, A521_3, c521_3, e521, hx521_0, hx521_1, hx521_2, hx521_3, hl521_3, hi521_3⟩ := at_T32 HR0.out x3_1 p521 q521
          have hw521_3 := hx521_3
          have hw521_2 := hx521_2
          have hw521_1 := hx521_1
          have hw521_0 := hx521_0
          cases e521
          replace hx521_0 := hc HB hx521_0
          replace hx521_1 := hc HB hx521_1
          replace hx521_2 := hc HB hx521_2
          replace hx521_3 := hc HB hx521_3
          have HR521_3 := mk0 hi521_3
          have HC521_3 := mk0 hl521_3
          clear hi521_3 hl521_3
          replace p521 := eq_true p521
          replace q521 := eq_true q521
          have p523 : 0 ≤ (x3_1 : Int) := oa
          have q523 : x3_1 < (l0.length : Int) := oa
          obtain ⟨ad523, A523_3, c523_3, e523, hx523_0, hx523_1, hx523_2, hx523_3, hl523_3, hi523_3⟩ := at_T32 HR0.out x3_1 p523 q523
          have hw523_3 := hx523_3
          have hw523_2 := hx523_2
          have hw523_1 := hx523_1
          have hw523_0 := hx523_0
          obtain rfl : ad521 = ad523 := (by injection e523)
          replace hx523_0 := hc HB hx523_0
          replace hx523_1 := hc HB hx523_1
          replace hx523_2 := hc HB hx523_2
          replace hx523_3 := hc HB hx523_3
          have HR523_3 := mk0 hi523_3
          have HC523_3 := mk0 hl523_3
          clear hi523_3 hl523_3
          replace p523 := eq_true p523
          replace q523 := eq_true q523
          have p524 : 0 ≤ (x3_1 : Int) := oa
          have q524 : x3_1 < (l0.length : Int) := oa
          obtain ⟨ad524, A524_3, c524_3, e524, hx524_0, hx524_1, hx524_2, hx524_3, hl524_3, hi524_3⟩ := at_T32 HR0.out x3_1 p524 q524
          have hw524_3 := hx524_3
          have hw524_2 := hx524_2
          have hw524_1 := hx524_1
          have hw524_0 := hx524_0
          obtain rfl : ad521 = ad524 := (by injection e524)
          replace hx524_0 := hc HB hx524_0
          replace hx524_1 := hc HB hx524_1
          replace hx524_2 := hc HB hx524_2
          replace hx524_3 := hc HB hx524_3
          have HR524_3 := mk0 hi524_3
          have HC524_3 := mk0 hl524_3
          clear hi524_3 hl524_3
          replace p524 := eq_true p524
          replace q524 := eq_true q524
          have ea_ := Option.some.inj (hx523_3.symm.trans hx524_3)
          injection ea_ with ea_ en_ ec_
          subst ea_
          subst ec_
          clear en_
          refine st 28 spec_ChainOk.tab4 spec_ChainOk.bits4 (c_ (hc HB hw521_0) (c_ (hc HB hw521_1) (c_ (hc HB hw521_2) (c_ (hc HB hw521_3) (c_ (hc HB hw523_0) (c_ (hc HB hw523_1) (c_ (hc HB hw523_2) (c_ (hc HB hw523_3) (c_ (hc HB hw524_0) (c_ (hc HB hw524_1) (c_ (hc HB hw524_2) (c_ (hc HB hw524_3) n_)))))))))))) (fun hHeld HT_ HW_ => ?_)
          generalize wr.drew = w11 at HB HR521_3 HR523_3 HR524_3 hx521_0 hx521_1 hx521_2 hx521_3 hx523_0 hx523_1 hx523_2 hx523_3 hx524_0 hx524_1 hx524_2 hx524_3 hHeld ⊢
          refine pu 0 (some 10) HT_ ?_
          refine pu 1 (some 11) HT_ ?_
          refine pu 2 (some 12) HT_ ?_
          refine tk 3 (some 13) HT_ HW_ hHeld ?_
          refine on 4 (some 14) HT_ (fun K hK => ?_)
          refine oB Try.func14 #[.agg #[.int .i64 ((rd_T32 l0 x3_1).f0), .string ((rd_T32 l0 x3_1).f1), .string ((rd_T32 l0 x3_1).f2), .slice A521_3 ((rd_T32 l0 x3_1).f3).length c521_3]] (spec_SealOk.calls k1 ((rd_T32 l0 x3_1).f0) ((rd_T32 l0 x3_1).f1) ((rd_T32 l0 x3_1).f2) _ _ ((rd_T32 l0 x3_1).f3) true _ (cc (Kd.C_below HR521_3.out HB.out)) HC521_3.out A4.out) ?_
          intro w12 hb
          replace HB := mk0 (below_step bw hb)
          (try clear hb)
          have q13 : (x3_1 : Int) ≤ ((l0.length : Int) : Int) := oa
          obtain ⟨i013, hi013, _, hsz13, _⟩ := info_parts info32
          have hroom13 : l0.length ≤ c0 := HC0.out
          have hC13 : Kd.C k32 _ (some ad521) l0.length l0 := HR0.out
          have hcut13 := cut_to (P := Try.prog) 38 32 .i64 Try.underlying38 hi013 (some ad521) l0.length c0 x3_1 oa q13 hroom13
          have hr13 := Kd.C_take (m := (x3_1 : Int).toNat) hC13 (by omega)
          have hy13 : y525.length = (x3_1 : Int).toNat := (by rw [Ny525.out, List.length_take]; omega)
          rw [← Ny525.out] at hr13
          rw [← hy13] at hcut13
          have HR528 := mk0 hr13
          have HC528 := mk0 (show y525.length ≤ c0 from by omega)
          clear hr13 hC13 hroom13 hi013 hsz13
          have KY13 := mk0 hy13
          clear hy13
          replace q13 := eq_true q13
          refine hK.out _ _ ah (fun hHeld => ?_)
          clear hK K
          refine nr (some 14) ?_
          refine pu 5 (some 15) HT_ ?_
          refine pu 6 (some 16) HT_ ?_
          refine pu 7 (some 17) HT_ ?_
          refine pu 8 (some 18) HT_ ?_
          refine pu 9 (some 19) HT_ ?_
          refine pu 10 (some 20) HT_ ?_
          refine pu 12 (some 22) HT_ ?_
          refine pu 13 (some 23) HT_ ?_
          refine tk 11 (some 21) HT_ HW_ hHeld ?_
          refine pu 14 (some 24) HT_ ?_
          refine pu 15 (some 25) HT_ ?_
          refine pu 16 (some 26) HT_ ?_
          refine pu 17 (some 27) HT_ ?_
          refine pu 18 (some 28) HT_ ?_
          refine pu 19 (some 29) HT_ ?_
          refine pu 20 (some 30) HT_ ?_
          refine pu 22 (some 32) HT_ ?_
          refine pu 23 (some 33) HT_ ?_
          refine pu 24 (some 34) HT_ ?_
          refine tk 21 (some 31) HT_ HW_ hHeld ?_
          refine on 25 (some 35) HT_ (fun K hK => ?_)
          refine oB Try.func46 #[.slice (some ad521) y525.length c0] (spec_l15Prev.calls k1 _ _ y525 t529 _ (cc (Kd.C_below HR528.out HB.out)) HC528.out A9.out) ?_
          intro w14 hb
          replace HB := mk0 (below_step bw hb)
          (try clear hb)
          refine hK.out _ _ ah (fun hHeld => ?_)
          clear hK K
          refine nr (some 35) ?_
          refine pu 26 (some 36) HT_ ?_
          refine pu 27 (some 37) HT_ ?_
          refine dn HT_ ?_
          try go_wp2
          go_roundg k1
          case measure => have := HK1.out; omega
          case rel => exact ⟨(wrap64 (x3_1 + 1)), sv, H', hk1, ⟨bw⟩⟩
        · obtain rfl := Option.some.inj H
          try go_wp2
          replace HB := mk0 (below_drew1 HB.out)
          have p521 : 0 ≤ (x3_1 : Int) := oa
          have q521 : x3_1 < (l0.length : Int) := oa
          obtain ⟨ad521, A521_3, c521_3, e521, hx521_0, hx521_1, hx521_2, hx521_3, hl521_3, hi521_3⟩ := at_T32 HR0.out x3_1 p521 q521
          have hw521_3 := hx521_3
          have hw521_2 := hx521_2
          have hw521_1 := hx521_1
          have hw521_0 := hx521_0
          cases e521
          replace hx521_0 := hc HB hx521_0
          replace hx521_1 := hc HB hx521_1
          replace hx521_2 := hc HB hx521_2
          replace hx521_3 := hc HB hx521_3
          have HR521_3 := mk0 hi521_3
          have HC521_3 := mk0 hl521_3
          clear hi521_3 hl521_3
          replace p521 := eq_true p521
          replace q521 := eq_true q521
          have p523 : 0 ≤ (x3_1 : Int) := oa
          have q523 : x3_1 < (l0.length : Int) := oa
          obtain ⟨ad523, A523_3, c523_3, e523, hx523_0, hx523_1, hx523_2, hx523_3, hl523_3, hi523_3⟩ := at_T32 HR0.out x3_1 p523 q523
          have hw523_3 := hx523_3
          have hw523_2 := hx523_2
          have hw523_1 := hx523_1
          have hw523_0 := hx523_0
          obtain rfl : ad521 = ad523 := (by injection e523)
          replace hx523_0 := hc HB hx523_0
          replace hx523_1 := hc HB hx523_1
          replace hx523_2 := hc HB hx523_2
          replace hx523_3 := hc HB hx523_3
          have HR523_3 := mk0 hi523_3
          have HC523_3 := mk0 hl523_3
          clear hi523_3 hl523_3
          replace p523 := eq_true p523
          replace q523 := eq_true q523
          have p524 : 0 ≤ (x3_1 : Int) := oa
          have q524 : x3_1 < (l0.length : Int) := oa
          obtain ⟨ad524, A524_3, c524_3, e524, hx524_0, hx524_1, hx524_2, hx524_3, hl524_3, hi524_3⟩ := at_T32 HR0.out x3_1 p524 q524
          have hw524_3 := hx524_3
          have hw524_2 := hx524_2
          have hw524_1 := hx524_1
          have hw524_0 := hx524_0
          obtain rfl : ad521 = ad524 := (by injection e524)
          replace hx524_0 := hc HB hx524_0
          replace hx524_1 := hc HB hx524_1
          replace hx524_2 := hc HB hx524_2
          replace hx524_3 := hc HB hx524_3
          have HR524_3 := mk0 hi524_3
          have HC524_3 := mk0 hl524_3
          clear hi524_3 hl524_3
          replace p524 := eq_true p524
          replace q524 := eq_true q524
          have ea_ := Option.some.inj (hx523_3.symm.trans hx524_3)
          injection ea_ with ea_ en_ ec_
          subst ea_
          subst ec_
          clear en_
          refine st 28 spec_ChainOk.tab4 spec_ChainOk.bits4 (c_ (hc HB hw521_0) (c_ (hc HB hw521_1) (c_ (hc HB hw521_2) (c_ (hc HB hw521_3) (c_ (hc HB hw523_0) (c_ (hc HB hw523_1) (c_ (hc HB hw523_2) (c_ (hc HB hw523_3) (c_ (hc HB hw524_0) (c_ (hc HB hw524_1) (c_ (hc HB hw524_2) (c_ (hc HB hw524_3) n_)))))))))))) (fun hHeld HT_ HW_ => ?_)
          generalize wr.drew = w15 at HB HR521_3 HR523_3 HR524_3 hx521_0 hx521_1 hx521_2 hx521_3 hx523_0 hx523_1 hx523_2 hx523_3 hx524_0 hx524_1 hx524_2 hx524_3 hHeld ⊢
          refine pu 0 (some 10) HT_ ?_
          refine pu 1 (some 11) HT_ ?_
          refine pu 2 (some 12) HT_ ?_
          refine tk 3 (some 13) HT_ HW_ hHeld ?_
          refine on 4 (some 14) HT_ (fun K hK => ?_)
          refine oB Try.func14 #[.agg #[.int .i64 ((rd_T32 l0 x3_1).f0), .string ((rd_T32 l0 x3_1).f1), .string ((rd_T32 l0 x3_1).f2), .slice A521_3 ((rd_T32 l0 x3_1).f3).length c521_3]] (spec_SealOk.calls k1 ((rd_T32 l0 x3_1).f0) ((rd_T32 l0 x3_1).f1) ((rd_T32 l0 x3_1).f2) _ _ ((rd_T32 l0 x3_1).f3) true _ (cc (Kd.C_below HR521_3.out HB.out)) HC521_3.out A4.out) ?_
          intro w16 hb
          replace HB := mk0 (below_step bw hb)
          (try clear hb)
          have q17 : (x3_1 : Int) ≤ ((l0.length : Int) : Int) := oa
          obtain ⟨i017, hi017, _, hsz17, _⟩ := info_parts info32
          have hroom17 : l0.length ≤ c0 := HC0.out
          have hC17 : Kd.C k32 _ (some ad521) l0.length l0 := HR0.out
          have hcut17 := cut_to (P := Try.prog) 38 32 .i64 Try.underlying38 hi017 (some ad521) l0.length c0 x3_1 oa q17 hroom17
          have hr17 := Kd.C_take (m := (x3_1 : Int).toNat) hC17 (by omega)
          have hy17 : y525.length = (x3_1 : Int).toNat := (by rw [Ny525.out, List.length_take]; omega)
          rw [← Ny525.out] at hr17
          rw [← hy17] at hcut17
          have HR528 := mk0 hr17
          have HC528 := mk0 (show y525.length ≤ c0 from by omega)
          clear hr17 hC17 hroom17 hi017 hsz17
          have KY17 := mk0 hy17
          clear hy17
          replace q17 := eq_true q17
          refine hK.out _ _ ah (fun hHeld => ?_)
          clear hK K
          refine nr (some 14) ?_
          refine pu 5 (some 15) HT_ ?_
          refine pu 6 (some 16) HT_ ?_
          refine pu 7 (some 17) HT_ ?_
          refine pu 8 (some 18) HT_ ?_
          refine pu 9 (some 19) HT_ ?_
          refine pu 10 (some 20) HT_ ?_
          refine pu 12 (some 22) HT_ ?_
          refine pu 13 (some 23) HT_ ?_
          refine tk 11 (some 21) HT_ HW_ hHeld ?_
          refine pu 14 (some 24) HT_ ?_
          refine pu 15 (some 25) HT_ ?_
          refine pu 16 (some 26) HT_ ?_
          refine pu 17 (some 27) HT_ ?_
          refine pu 18 (some 28) HT_ ?_
          refine pu 19 (some 29) HT_ ?_
          refine pu 20 (some 30) HT_ ?_
          refine pu 22 (some 32) HT_ ?_
          refine pu 23 (some 33) HT_ ?_
          refine pu 24 (some 34) HT_ ?_
          refine tk 21 (some 31) HT_ HW_ hHeld ?_
          refine on 25 (some 35) HT_ (fun K hK => ?_)
          refine oB Try.func46 #[.slice (some ad521) y525.length c0] (spec_l15Prev.calls k1 _ _ y525 t529 _ (cc (Kd.C_below HR528.out HB.out)) HC528.out A9.out) ?_
          intro w18 hb
          replace HB := mk0 (below_step bw hb)
          (try clear hb)
          refine hK.out _ _ ah (fun hHeld => ?_)
          clear hK K
          refine nr (some 35) ?_
          refine pu 26 (some 36) HT_ ?_
          refine pu 27 (some 37) HT_ ?_
          refine dn HT_ ?_
          try go_wp2
          go_ret
          exact ⟨sw, bw⟩
      · obtain rfl := Option.some.inj H
        try go_wp2
        replace HB := mk0 (below_drew1 HB.out)
        have p521 : 0 ≤ (x3_1 : Int) := oa
        have q521 : x3_1 < (l0.length : Int) := oa
        obtain ⟨ad521, A521_3, c521_3, e521, hx521_0, hx521_1, hx521_2, hx521_3, hl521_3, hi521_3⟩ := at_T32 HR0.out x3_1 p521 q521
        have hw521_3 := hx521_3
        have hw521_2 := hx521_2
        have hw521_1 := hx521_1
        have hw521_0 := hx521_0
        cases e521
        replace hx521_0 := hc HB hx521_0
        replace hx521_1 := hc HB hx521_1
        replace hx521_2 := hc HB hx521_2
        replace hx521_3 := hc HB hx521_3
        have HR521_3 := mk0 hi521_3
        have HC521_3 := mk0 hl521_3
        clear hi521_3 hl521_3
        replace p521 := eq_true p521
        replace q521 := eq_true q521
        have p523 : 0 ≤ (x3_1 : Int) := oa
        have q523 : x3_1 < (l0.length : Int) := oa
        obtain ⟨ad523, A523_3, c523_3, e523, hx523_0, hx523_1, hx523_2, hx523_3, hl523_3, hi523_3⟩ := at_T32 HR0.out x3_1 p523 q523
        have hw523_3 := hx523_3
        have hw523_2 := hx523_2
        have hw523_1 := hx523_1
        have hw523_0 := hx523_0
        obtain rfl : ad521 = ad523 := (by injection e523)
        replace hx523_0 := hc HB hx523_0
        replace hx523_1 := hc HB hx523_1
        replace hx523_2 := hc HB hx523_2
        replace hx523_3 := hc HB hx523_3
        have HR523_3 := mk0 hi523_3
        have HC523_3 := mk0 hl523_3
        clear hi523_3 hl523_3
        replace p523 := eq_true p523
        replace q523 := eq_true q523
        refine st 28 spec_ChainOk.tab4 spec_ChainOk.bits4 (c_ (hc HB hw521_0) (c_ (hc HB hw521_1) (c_ (hc HB hw521_2) (c_ (hc HB hw521_3) (c_ (hc HB hw523_0) (c_ (hc HB hw523_1) (c_ (hc HB hw523_2) (c_ (hc HB hw523_3) n_)))))))) (fun hHeld HT_ HW_ => ?_)
        generalize wr.drew = w19 at HB HR521_3 HR523_3 hx521_0 hx521_1 hx521_2 hx521_3 hx523_0 hx523_1 hx523_2 hx523_3 hHeld ⊢
        refine pu 0 (some 10) HT_ ?_
        refine pu 1 (some 11) HT_ ?_
        refine pu 2 (some 12) HT_ ?_
        refine tk 3 (some 13) HT_ HW_ hHeld ?_
        refine on 4 (some 14) HT_ (fun K hK => ?_)
        refine oB Try.func14 #[.agg #[.int .i64 ((rd_T32 l0 x3_1).f0), .string ((rd_T32 l0 x3_1).f1), .string ((rd_T32 l0 x3_1).f2), .slice A521_3 ((rd_T32 l0 x3_1).f3).length c521_3]] (spec_SealOk.calls k1 ((rd_T32 l0 x3_1).f0) ((rd_T32 l0 x3_1).f1) ((rd_T32 l0 x3_1).f2) _ _ ((rd_T32 l0 x3_1).f3) true _ (cc (Kd.C_below HR521_3.out HB.out)) HC521_3.out A4.out) ?_
        intro w20 hb
        replace HB := mk0 (below_step bw hb)
        (try clear hb)
        refine hK.out _ _ ah (fun hHeld => ?_)
        clear hK K
        refine nr (some 14) ?_
        refine pu 5 (some 15) HT_ ?_
        refine pu 6 (some 16) HT_ ?_
        refine pu 7 (some 17) HT_ ?_
        refine pu 8 (some 18) HT_ ?_
        refine pu 9 (some 19) HT_ ?_
        refine pu 10 (some 20) HT_ ?_
        refine pu 12 (some 22) HT_ ?_
        refine pu 13 (some 23) HT_ ?_
        refine tk 11 (some 21) HT_ HW_ hHeld ?_
        refine pu 14 (some 24) HT_ ?_
        refine pu 15 (some 25) HT_ ?_
        refine pu 16 (some 26) HT_ ?_
        refine un 17 (some 27) HT_ ?_
        refine un 18 (some 28) HT_ ?_
        refine un 19 (some 29) HT_ ?_
        refine un 20 (some 30) HT_ ?_
        refine un 21 (some 31) HT_ ?_
        refine un 22 (some 32) HT_ ?_
        refine un 23 (some 33) HT_ ?_
        refine un 24 (some 34) HT_ ?_
        refine un 25 (some 35) HT_ ?_
        refine un 26 (some 36) HT_ ?_
        refine pu 27 (some 37) HT_ ?_
        refine dn HT_ ?_
        try go_wp2
        go_ret
        exact ⟨sw, bw⟩
    · replace H := jf H
      obtain rfl := Option.some.inj H
      try go_wp2
      replace HB := mk0 (below_drew1 HB.out)
      have p521 : 0 ≤ (x3_1 : Int) := oa
      have q521 : x3_1 < (l0.length : Int) := oa
      obtain ⟨ad521, A521_3, c521_3, e521, hx521_0, hx521_1, hx521_2, hx521_3, hl521_3, hi521_3⟩ := at_T32 HR0.out x3_1 p521 q521
      have hw521_3 := hx521_3
      have hw521_2 := hx521_2
      have hw521_1 := hx521_1
      have hw521_0 := hx521_0
      cases e521
      replace hx521_0 := hc HB hx521_0
      replace hx521_1 := hc HB hx521_1
      replace hx521_2 := hc HB hx521_2
      replace hx521_3 := hc HB hx521_3
      have HR521_3 := mk0 hi521_3
      have HC521_3 := mk0 hl521_3
      clear hi521_3 hl521_3
      replace p521 := eq_true p521
      replace q521 := eq_true q521
      refine st 28 spec_ChainOk.tab4 spec_ChainOk.bits4 (c_ (hc HB hw521_0) (c_ (hc HB hw521_1) (c_ (hc HB hw521_2) (c_ (hc HB hw521_3) n_)))) (fun hHeld HT_ HW_ => ?_)
      generalize wr.drew = w21 at HB HR521_3 hx521_0 hx521_1 hx521_2 hx521_3 hHeld ⊢
      refine pu 0 (some 10) HT_ ?_
      refine pu 1 (some 11) HT_ ?_
      refine pu 2 (some 12) HT_ ?_
      refine tk 3 (some 13) HT_ HW_ hHeld ?_
      refine on 4 (some 14) HT_ (fun K hK => ?_)
      refine oB Try.func14 #[.agg #[.int .i64 ((rd_T32 l0 x3_1).f0), .string ((rd_T32 l0 x3_1).f1), .string ((rd_T32 l0 x3_1).f2), .slice A521_3 ((rd_T32 l0 x3_1).f3).length c521_3]] (spec_SealOk.calls k1 ((rd_T32 l0 x3_1).f0) ((rd_T32 l0 x3_1).f1) ((rd_T32 l0 x3_1).f2) _ _ ((rd_T32 l0 x3_1).f3) false _ (cc (Kd.C_below HR521_3.out HB.out)) HC521_3.out A4.out) ?_
      intro w22 hb
      replace HB := mk0 (below_step bw hb)
      (try clear hb)
      refine hK.out _ _ ah (fun hHeld => ?_)
      clear hK K
      refine nr (some 14) ?_
      refine pu 5 (some 15) HT_ ?_
      refine pu 6 (some 16) HT_ ?_
      refine un 7 (some 17) HT_ ?_
      refine un 8 (some 18) HT_ ?_
      refine un 9 (some 19) HT_ ?_
      refine un 10 (some 20) HT_ ?_
      refine un 11 (some 21) HT_ ?_
      refine un 12 (some 22) HT_ ?_
      refine un 13 (some 23) HT_ ?_
      refine un 14 (some 24) HT_ ?_
      refine pu 15 (some 25) HT_ ?_
      refine pu 16 (some 26) HT_ ?_
      refine un 17 (some 27) HT_ ?_
      refine un 18 (some 28) HT_ ?_
      refine un 19 (some 29) HT_ ?_
      refine un 20 (some 30) HT_ ?_
      refine un 21 (some 31) HT_ ?_
      refine un 22 (some 32) HT_ ?_
      refine un 23 (some 33) HT_ ?_
      refine un 24 (some 34) HT_ ?_
      refine un 25 (some 35) HT_ ?_
      refine un 26 (some 36) HT_ ?_
      refine pu 27 (some 37) HT_ ?_
      refine dn HT_ ?_
      try go_wp2
      go_ret
      exact ⟨sw, bw⟩
  · obtain rfl := Option.some.inj H
    go_wp2
    go_ret
    exact ⟨sw, bw⟩
end Go.Proofs.Ytlekeiokdmnboaa.Pa
end
