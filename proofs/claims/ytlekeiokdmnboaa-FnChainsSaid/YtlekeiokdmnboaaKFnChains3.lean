/- The law FnChains of the given program: it answers true at every input that its statement speaks of. Part 4 of 7: words, walks of the functions (printed by programs of this session), the plain law, the row. -/
import Derived.Test.YtlekeiokdmnboaaKFnChains2
import Derived.Test.YtlekeiokdmnboaaKFnChains0
section
namespace Go.Proofs.Ytlekeiokdmnboaa.Pa
open Go.RowKit Go.Proofs.YtlekeiokdmnboaaW.PrintWords Go.Proofs.YtlekeiokdmnboaaW.PrintLast Go.Proofs.YtlekeiokdmnboaaW.PrintMore Go.Proofs.Ytlekeiokdmnboaa.M
attribute [local go_sem] max2_int min2_int max_two min_two max_three min_three max_four min_four   -- for this text's walks alone
set_option linter.unusedVariables false
set_option maxHeartbeats 8000000
set_option maxRecDepth 100000
set_option linter.unusedSimpArgs false

/-! ### spec_PutTexts: function 62 -/
def spec_PutTexts.l0 : Nat → List ByteArray → List Int → Int → Option (List Int)
  | 0, _, _, _ => none
  | k + 1, x1, x5, x6 => if x6 < (x1.length : Int) then (if 0 ≤ x6 then ((spec_PutText.f k x5 (rdOf ByteArray.empty x1 x6)).bind fun t229 => (spec_PutTexts.l0 k x1 t229 (wrap64 (x6 + 1)))) else (none)) else (some x5)
def spec_PutTexts.f (k : Nat) (l0 : List Int) (l1 : List ByteArray) : Option (List Int) := (spec_PutNum.f k l0 (l1.length : Int)).bind fun t225 => (spec_PutTexts.l0 k l1 t225 0)
theorem spec_PutTexts.mono_l : ∀ k, (∀ y0 y1 y2, LeO (spec_PutTexts.l0 k y0 y1 y2) (spec_PutTexts.l0 (k + 1) y0 y1 y2))
  | 0 => fun _ _ _ r h => by simp [spec_PutTexts.l0] at h
  | k + 1 => by
    have ih0 := spec_PutTexts.mono_l k
    · intro y0 y1 y2
      unfold spec_PutTexts.l0
      have m0 := @spec_PutNum.mono
      have m1 := @spec_PutText.mono
      exact me
theorem spec_PutTexts.mono : ∀ a0 a1 k, LeO (spec_PutTexts.f k a0 a1) (spec_PutTexts.f (k + 1) a0 a1) := by
  intro a0 a1 k
  have ih0 := spec_PutTexts.mono_l k
  unfold spec_PutTexts.f
  have m0 := @spec_PutNum.mono
  have m1 := @spec_PutText.mono
  exact me
theorem spec_PutTexts.calls (k : Nat) (A0 : Option Addr) (c0 : Nat) (l0 : List Int) (A1 : Option Addr) (c1 : Nat) (l1 : List ByteArray) (r : List Int) (w : World) (hr0 : Kd.C (Kd.int .u8) w A0 l0.length l0) (hc0 : l0.length ≤ c0) (hr1 : Kd.C Kd.string w A1 l1.length l1) (hc1 : l1.length ≤ c1) (h : spec_PutTexts.f k l0 l1 = some r) :
    Calls Try.prog 62 #[.slice A0 l0.length c0, .slice A1 l1.length c1] w fun e w' => ∃ v0_ : Value, e = .returned (v0_) ∧ Kd.R (Kd.int .u8) 5 w' w.heap.size (fun _ => True) v0_ r ∧ Below w.heap.size w w' := by
 have HR0 := mk0 hr0
 have HC0 := mk0 hc0
 clear hr0 hc0
 have HR1 := mk0 hr1
 have HC1 := mk0 hc1
 clear hr1 hc1
 have HB := mk0 (Below.refl w.heap.size w)
 have H : ((spec_PutNum.f k l0 (l1.length : Int)).bind fun t225 => (spec_PutTexts.l0 k l1 t225 0)) = some r := h
 clear h
 replace H := bd H; obtain ⟨t225, A3, H⟩ := H
 have H' := mk0 H
 clear H
 go_enter Try.func62, Try.ntmps62
 go_wp2_with (first | ((with_reducible refine gC 64 (some 10) rfl rfl ?_); refine gR (some 10) Try.func64 #[.slice A0 l0.length c0, .int .i64 (l1.length : Int)] (spec_PutNum.calls k _ _ l0 (l1.length : Int) t225 _ (cc HR0.out) HC0.out A3.out) ?_; intro v226 w4 ho0 hb; have HO227 := mk0 (Kd.R_lower ho0 bs); replace HB := mk0 (below_step bw hb); clear hb ho0))
 go_loopg [5, 6] k (fun kq v5 v6 w' => ∃ (x5_1 : List Int) (x6_1 : Int), v6 = .int .i64 x6_1 ∧ Aside0 (spec_PutTexts.l0 kq l1 x5_1 x6_1 = some r) ∧ Aside0 (kq ≤ k) ∧ Aside0 (Kd.R (Kd.int .u8) 5 w' w.heap.size (fun _ => True) v5 x5_1) ∧ Aside0 (Below w.heap.size w w'))
 case atStart => exact ⟨(t225), (0), sv, H', nl, ⟨rr HO227.out⟩, ⟨bw⟩⟩
 case round =>
  clear H'
  obtain ⟨x5_1, x6_1, rfl, HA, HK1, HO_5, HB⟩ := hrel
  rcases gk with _ | k1
  · exact absurd HA.out (by simp [spec_PutTexts.l0])
  have H := HA.out
  clear HA
  simp only [spec_PutTexts.l0] at H
  replace H := idd H; rcases H with ⟨c5b0, H⟩ | ⟨c5b0, H⟩
  · replace H := gd H; obtain ⟨c6b0, H⟩ := H
    replace H := bd H; obtain ⟨t229, A7, H⟩ := H
    have H' := mk0 H
    clear H
    have p228 : 0 ≤ (x6_1 : Int) := oa
    have q228 : x6_1 < (l1.length : Int) := oa
    obtain ⟨ad228, e228, hx228_0⟩ := Kd.at_string HR1.out x6_1 p228 q228
    cases e228
    replace hx228_0 := hc HB hx228_0
    replace p228 := eq_true p228
    replace q228 := eq_true q228
    obtain ⟨Ao8, co8, eo8⟩ := Kd.R_slice HO_5.out
    subst eo8
    go_wp2_with (first | ((with_reducible refine gC 63 (some 22) rfl rfl ?_); refine gR (some 22) Try.func63 #[.slice Ao8 x5_1.length co8, .string (rdOf ByteArray.empty l1 x6_1)] (spec_PutText.calls k1 _ _ x5_1 (rdOf ByteArray.empty l1 x6_1) t229 _ (cc ((Kd.R_reads' HO_5.out).2.2)) ((Kd.R_reads' HO_5.out).2.1) A7.out) ?_; intro v230 w9 ho0 hb; have HO231 := mk0 (Kd.R_lower (Kd.R_new' ho0 (Kd.R_lt (rr HO_5.out))) bs); replace HO_5 := mk0 (Kd.R_elder' (rr HO_5.out) (Kd.R_base ho0) hb); replace HB := mk0 (below_step bw hb); clear hb ho0))
    go_roundg k1
    case measure => have := HK1.out; omega
    case rel => exact ⟨(t229), (wrap64 (x6_1 + 1)), sv, H', hk1, ⟨by (with_reducible repeat (first | apply Kd.R_alloc | apply Kd.R_drewN | apply Kd.R_drew)); exact Kd.R_mono HO231.out (fun _ hk => trivial)⟩, ⟨bw⟩⟩
  · obtain rfl := Option.some.inj H
    go_wp2
    go_ret
    exact ⟨_, sw, rr HO_5.out, bw⟩
/-! ### spec_l15Super: function 36 -/
def spec_l15Super.f (k : Nat) (a0 : Int) (a1 : ByteArray) (l2 : List ByteArray) : Option (List Int) := (spec_PutNum.f k (([3] : List Int)) a0).bind fun t235 => ((spec_PutText.f k t235 a1).bind fun t238 => ((spec_PutTexts.f k t238 l2).bind fun t241 => (some t241)))
theorem spec_l15Super.mono : ∀ a0 a1 a2 k, LeO (spec_l15Super.f k a0 a1 a2) (spec_l15Super.f (k + 1) a0 a1 a2) := by
  intro a0 a1 a2 k
  unfold spec_l15Super.f
  have m0 := @spec_PutNum.mono
  have m1 := @spec_PutText.mono
  have m2 := @spec_PutTexts.mono
  exact me
theorem spec_l15Super.calls (k : Nat) (a0 : Int) (a1 : ByteArray) (A2 : Option Addr) (c2 : Nat) (l2 : List ByteArray) (r : List Int) (w : World) (hr2 : Kd.C Kd.string w A2 l2.length l2) (hc2 : l2.length ≤ c2) (h : spec_l15Super.f k a0 a1 l2 = some r) :
    Calls Try.prog 36 #[.int .i64 a0, .string a1, .slice A2 l2.length c2] w fun e w' => ∃ v0_ : Value, e = .returned (v0_) ∧ Kd.R (Kd.int .u8) 5 w' w.heap.size (fun _ => True) v0_ r ∧ Below w.heap.size w w' := by
 have HR2 := mk0 hr2
 have HC2 := mk0 hc2
 clear hr2 hc2
 have HB := mk0 (Below.refl w.heap.size w)
 have H : ((spec_PutNum.f k (([3] : List Int)) a0).bind fun t235 => ((spec_PutText.f k t235 a1).bind fun t238 => ((spec_PutTexts.f k t238 l2).bind fun t241 => (some t241)))) = some r := h
 clear h
 obtain ⟨y232, Ny232⟩ := nm (([3] : List Int))
 replace H := bd H; obtain ⟨t235, A4, H⟩ := H; rw [← Ny232.out] at A4
 replace H := bd H; obtain ⟨t238, A5, H⟩ := H
 replace H := bd H; obtain ⟨t241, A6, H⟩ := H
 obtain rfl := Option.some.inj H
 go_enter Try.func36, Try.ntmps36
 go_wp2_with (first | ((with_reducible refine gD 7 rfl ?_); refine lt (Kd.int .u8) 5 7 ([3] : List Int) [.int .u8 3] ?_; intro v233 w7 ho8 hb hg_ hnew_; clear hg_ hnew_; (first | rw [← Ny232.out] at ho8 | (simp only [Int.reduceToNat] at ho8; rw [← Ny232.out] at ho8)); have HO234 := mk0 (Kd.R_lower ho8 bs); replace HB := mk0 (below_step bw hb); clear hb ho8; obtain ⟨Ao9, co9, eo9⟩ := Kd.R_slice HO234.out; subst eo9) | ((with_reducible refine gC 64 (some 9) rfl rfl ?_); refine gR (some 9) Try.func64 #[.slice Ao9 y232.length co9, .int .i64 a0] (spec_PutNum.calls k _ _ y232 a0 t235 _ (cc ((Kd.R_reads' HO234.out).2.2)) ((Kd.R_reads' HO234.out).2.1) A4.out) ?_; intro v236 w10 ho0 hb; have HO237 := mk0 (Kd.R_lower (Kd.R_new' ho0 (Kd.R_lt (rr HO234.out))) bs); replace HO234 := mk0 (Kd.R_elder' (rr HO234.out) (Kd.R_base ho0) hb); replace HB := mk0 (below_step bw hb); clear hb ho0; obtain ⟨Ao11, co11, eo11⟩ := Kd.R_slice HO237.out; subst eo11) | ((with_reducible refine gC 63 (some 11) rfl rfl ?_); refine gR (some 11) Try.func63 #[.slice Ao11 t235.length co11, .string a1] (spec_PutText.calls k _ _ t235 a1 t238 _ (cc ((Kd.R_reads' HO237.out).2.2)) ((Kd.R_reads' HO237.out).2.1) A5.out) ?_; intro v239 w12 ho0 hb; have HO240 := mk0 (Kd.R_lower (Kd.R_new' (Kd.R_new' ho0 (Kd.R_lt (rr HO234.out))) (Kd.R_lt (rr HO237.out))) bs); replace HO234 := mk0 (Kd.R_elder' (rr HO234.out) (Kd.R_base ho0) hb); replace HO237 := mk0 (Kd.R_elder' (rr HO237.out) (Kd.R_base ho0) hb); replace HB := mk0 (below_step bw hb); clear hb ho0; obtain ⟨Ao13, co13, eo13⟩ := Kd.R_slice HO240.out; subst eo13) | ((with_reducible refine gC 62 (some 13) rfl rfl ?_); refine gR (some 13) Try.func62 #[.slice Ao13 t238.length co13, .slice A2 l2.length c2] (spec_PutTexts.calls k _ _ t238 _ _ l2 t241 _ (cc ((Kd.R_reads' HO240.out).2.2)) ((Kd.R_reads' HO240.out).2.1) (cc (Kd.C_below HR2.out HB.out)) HC2.out A6.out) ?_; intro v242 w14 ho0 hb; have HO243 := mk0 (Kd.R_lower (Kd.R_new' (Kd.R_new' (Kd.R_new' ho0 (Kd.R_lt (rr HO234.out))) (Kd.R_lt (rr HO237.out))) (Kd.R_lt (rr HO240.out))) bs); replace HO234 := mk0 (Kd.R_elder' (rr HO234.out) (Kd.R_base ho0) hb); replace HO237 := mk0 (Kd.R_elder' (rr HO237.out) (Kd.R_base ho0) hb); replace HO240 := mk0 (Kd.R_elder' (rr HO240.out) (Kd.R_base ho0) hb); replace HB := mk0 (below_step bw hb); clear hb ho0))
 go_ret
 exact ⟨_, sw, by (with_reducible repeat (first | apply Kd.R_alloc | apply Kd.R_drewN | apply Kd.R_drew)); exact Kd.R_mono HO243.out (fun _ hk => trivial), bw⟩
/-! ### spec_SuperOf: function 9 -/
def spec_SuperOf.f (k : Nat) (a0 : Int) (a1 : ByteArray) (l2 : List ByteArray) : Option (ByteArray) := (spec_l15Super.f k a0 a1 l2).bind fun t244 => ((spec_Digest.f k t244).bind fun t247 => (some t247))
theorem spec_SuperOf.mono : ∀ a0 a1 a2 k, LeO (spec_SuperOf.f k a0 a1 a2) (spec_SuperOf.f (k + 1) a0 a1 a2) := by
  intro a0 a1 a2 k
  unfold spec_SuperOf.f
  have m0 := @spec_Digest.mono
  have m1 := @spec_l15Super.mono
  exact me
theorem spec_SuperOf.calls (k : Nat) (a0 : Int) (a1 : ByteArray) (A2 : Option Addr) (c2 : Nat) (l2 : List ByteArray) (r : ByteArray) (w : World) (hr2 : Kd.C Kd.string w A2 l2.length l2) (hc2 : l2.length ≤ c2) (h : spec_SuperOf.f k a0 a1 l2 = some r) :
    Calls Try.prog 9 #[.int .i64 a0, .string a1, .slice A2 l2.length c2] w fun e w' => e = .returned (.string r) ∧ Below w.heap.size w w' := by
 have HR2 := mk0 hr2
 have HC2 := mk0 hc2
 clear hr2 hc2
 have HB := mk0 (Below.refl w.heap.size w)
 have H : ((spec_l15Super.f k a0 a1 l2).bind fun t244 => ((spec_Digest.f k t244).bind fun t247 => (some t247))) = some r := h
 clear h
 replace H := bd H; obtain ⟨t244, A4, H⟩ := H
 replace H := bd H; obtain ⟨t247, A5, H⟩ := H
 obtain rfl := Option.some.inj H
 go_enter Try.func9, Try.ntmps9
 go_wp2_with (first | ((with_reducible refine gC 36 (some 10) rfl rfl ?_); refine gR (some 10) Try.func36 #[.int .i64 a0, .string a1, .slice A2 l2.length c2] (spec_l15Super.calls k a0 a1 _ _ l2 t244 _ (cc HR2.out) HC2.out A4.out) ?_; intro v245 w6 ho0 hb; have HO246 := mk0 (Kd.R_lower ho0 bs); replace HB := mk0 (below_step bw hb); clear hb ho0; obtain ⟨Ao7, co7, eo7⟩ := Kd.R_slice HO246.out; subst eo7) | ((with_reducible refine gC 35 (some 11) rfl rfl ?_); refine gB (some 11) Try.func35 #[.slice Ao7 t244.length co7] (spec_Digest.calls k _ _ t244 t247 _ (cc ((Kd.R_reads' HO246.out).2.2)) ((Kd.R_reads' HO246.out).2.1) A5.out) ?_; intro w8 hb; replace HO246 := mk0 (Kd.R_below (rr HO246.out) hb); replace HB := mk0 (below_step bw hb); clear hb))
 go_ret
 exact ⟨sw, bw⟩
/-! ### impl_putTexts: function 38 -/
def impl_putTexts.l0 : Nat → List Int → List ByteArray → Int → Int → Option (List Int)
  | 0, _, _, _, _ => none
  | k + 1, x0, x11, x12, x13 => if x13 < x12 then (if 0 ≤ x13 then (if x13 < (x11.length : Int) then ((impl_putText.f k x0 (rdOf ByteArray.empty x11 x13)).bind fun t281 => (impl_putTexts.l0 k t281 x11 x12 (wrap64 (x13 + 1)))) else (none)) else (none)) else (some x0)
def impl_putTexts.f (k : Nat) (l0 : List Int) (l1 : List ByteArray) : Option (List Int) := (impl_putNum.f k l0 (l1.length : Int)).bind fun t277 => (impl_putTexts.l0 k t277 l1 (l1.length : Int) 0)
theorem impl_putTexts.mono_l : ∀ k, (∀ y0 y1 y2 y3, LeO (impl_putTexts.l0 k y0 y1 y2 y3) (impl_putTexts.l0 (k + 1) y0 y1 y2 y3))
  | 0 => fun _ _ _ _ r h => by simp [impl_putTexts.l0] at h
  | k + 1 => by
    have ih0 := impl_putTexts.mono_l k
    · intro y0 y1 y2 y3
      unfold impl_putTexts.l0
      have m0 := @impl_putNum.mono
      have m1 := @impl_putText.mono
      exact me
theorem impl_putTexts.mono : ∀ a0 a1 k, LeO (impl_putTexts.f k a0 a1) (impl_putTexts.f (k + 1) a0 a1) := by
  intro a0 a1 k
  have ih0 := impl_putTexts.mono_l k
  unfold impl_putTexts.f
  have m0 := @impl_putNum.mono
  have m1 := @impl_putText.mono
  exact me
theorem impl_putTexts.calls (k : Nat) (P0_ : Nat → Prop) (u9000_ : Value) (l0 : List Int) (A1 : Option Addr) (c1 : Nat) (l1 : List ByteArray) (r : List Int) (w0 w : World) (hB : Below w0.heap.size w0 w) (ho0 : Kd.R (Kd.int .u8) 5 w w0.heap.size P0_ u9000_ l0) (hr1 : ∀ W_, Kept w W_ (fun k_ => P0_ k_) → Kd.C Kd.string W_ A1 l1.length l1) (hc1 : l1.length ≤ c1) (h : impl_putTexts.f k l0 l1 = some r) :
    Calls Try.prog 38 #[u9000_, .slice A1 l1.length c1] w fun e w' => ∃ v0_ : Value, e = .returned (v0_) ∧ Kd.R (Kd.int .u8) 5 w' w0.heap.size (fun k_ => (P0_ k_ ∨ w.heap.size ≤ k_)) v0_ r ∧ Below w0.heap.size w0 w' ∧ Kept w w' (fun k_ => P0_ k_) := by
 have HO0 := mk0 (show Kd.R (Kd.int .u8) 5 w w0.heap.size (fun k_ => (P0_ k_ ∨ w.heap.size ≤ k_)) u9000_ l0 from Kd.R_mono ho0 (fun k_ hk => (.inl hk)))
 have HR1 := mk0 hr1
 have HC1 := mk0 hc1
 clear hr1 hc1
 have HK := mk0 (Kept.refl w (fun k_ => P0_ k_))
 have HW0 := mk0 hB.size
 have HB := mk0 hB
 clear hB
 have H : ((impl_putNum.f k l0 (l1.length : Int)).bind fun t277 => (impl_putTexts.l0 k t277 l1 (l1.length : Int) 0)) = some r := h
 clear h
 replace H := bd H; obtain ⟨t277, A3, H⟩ := H
 have H' := mk0 H
 clear H
 obtain ⟨Ao4, co4, eo4⟩ := Kd.R_slice HO0.out
 subst eo4
 go_enter Try.func38, Try.ntmps38
 go_wp2_with (first | ((with_reducible refine gC 40 (some 10) rfl rfl ?_); refine gK (some 10) Try.func40 #[.slice Ao4 l0.length co4, .int .i64 (l1.length : Int)] (impl_putNum.calls k (fun k_ => some k_ = (.slice Ao4 l0.length co4 : Value).ownBlock) (.slice Ao4 l0.length co4) l0 (l1.length : Int) t277 w0 _ bw (Kd.R_tight rfl HO0.out) A3.out) ?_; intro v278 w5 ho0 hb hkp; have HO279 := mk0 (Kd.R_mono (ok' := fun k_ => (P0_ k_ ∨ w.heap.size ≤ k_)) ho0 (fun k_ hk_ => Or.elim hk_ (fun hs_ => (HO0.out.1 k_ (hs_).symm)) (fun hn_ => (.inr (Nat.le_trans (by first | exact HK.out.1 | exact (show Kept w _ (fun k_ => P0_ k_) from kw).1) hn_))))); replace HK := mk0 (Kept.then_ (S := (fun k_ => P0_ k_)) kw hkp (fun k_ hs_ => (fun e_ => (HO0.out.1 k_ e_.symm)) hs_)); replace HB := mk0 (hb); clear HO0; clear hb hkp ho0))
 go_loopg [0, 13] k (fun kq v0 v13 w' => ∃ (x0_1 : List Int) (x13_1 : Int), v13 = .int .i64 x13_1 ∧ Aside0 (impl_putTexts.l0 kq x0_1 l1 (l1.length : Int) x13_1 = some r) ∧ Aside0 (kq ≤ k) ∧ Aside0 (Kd.R (Kd.int .u8) 5 w' w0.heap.size (fun k_ => (P0_ k_ ∨ w.heap.size ≤ k_)) v0 x0_1) ∧ Aside0 (Kept w w' (fun k_ => P0_ k_)) ∧ Aside0 (Below w0.heap.size w0 w'))
 case atStart => exact ⟨(t277), (0), sv, H', nl, ⟨rr HO279.out⟩, ⟨kw⟩, ⟨bw⟩⟩
 case round =>
  clear H'
  obtain ⟨x0_1, x13_1, rfl, HA, HK1, HO_0, HK, HB⟩ := hrel
  rcases gk with _ | k1
  · exact absurd HA.out (by simp [impl_putTexts.l0])
  have H := HA.out
  clear HA
  simp only [impl_putTexts.l0] at H
  replace H := idd H; rcases H with ⟨c6b0, H⟩ | ⟨c6b0, H⟩
  · replace H := gd H; obtain ⟨c7b0, H⟩ := H
    replace H := gd H; obtain ⟨c8b0, H⟩ := H
    replace H := bd H; obtain ⟨t281, A9, H⟩ := H
    have H' := mk0 H
    clear H
    have p280 : 0 ≤ (x13_1 : Int) := oa
    have q280 : x13_1 < (l1.length : Int) := oa
    obtain ⟨ad280, e280, hx280_0⟩ := Kd.at_string (Kd.C_kept_now HR1.out HK.out) x13_1 p280 q280
    cases e280
    replace p280 := eq_true p280
    replace q280 := eq_true q280
    obtain ⟨Ao10, co10, eo10⟩ := Kd.R_slice HO_0.out
    subst eo10
    go_wp2_with (first | ((with_reducible refine gC 39 (some 19) rfl rfl ?_); refine gK (some 19) Try.func39 #[.slice Ao10 x0_1.length co10, .string (rdOf ByteArray.empty l1 x13_1)] (impl_putText.calls k1 (fun k_ => some k_ = (.slice Ao10 x0_1.length co10 : Value).ownBlock) (.slice Ao10 x0_1.length co10) x0_1 (rdOf ByteArray.empty l1 x13_1) t281 w0 _ bw (Kd.R_tight rfl HO_0.out) A9.out) ?_; intro v282 w11 ho0 hb hkp; have HO283 := mk0 (Kd.R_mono (ok' := fun k_ => (P0_ k_ ∨ w.heap.size ≤ k_)) ho0 (fun k_ hk_ => Or.elim hk_ (fun hs_ => (HO_0.out.1 k_ (hs_).symm)) (fun hn_ => (.inr (Nat.le_trans (by first | exact HK.out.1 | exact (show Kept w _ (fun k_ => P0_ k_) from kw).1) hn_))))); replace HK := mk0 (Kept.then_ (S := (fun k_ => P0_ k_)) kw hkp (fun k_ hs_ => (fun e_ => (HO_0.out.1 k_ e_.symm)) hs_)); replace HB := mk0 (hb); clear HO_0; clear hb hkp ho0))
    go_roundg k1
    case measure => have := HK1.out; omega
    case rel => exact ⟨(t281), (wrap64 (x13_1 + 1)), sv, H', hk1, ⟨rr HO283.out⟩, ⟨kw⟩, ⟨bw⟩⟩
  · obtain rfl := Option.some.inj H
    go_wp2
    go_ret
    exact ⟨_, sw, rr HO_0.out, bw, kw⟩
/-! ### impl_SuperOf: function 11 -/
def impl_SuperOf.f (k : Nat) (a0 : Int) (a1 : ByteArray) (l2 : List ByteArray) : Option (ByteArray) := (impl_putNum.f k (([3] : List Int)) a0).bind fun t287 => ((impl_putText.f k t287 a1).bind fun t290 => ((impl_putTexts.f k t290 l2).bind fun t293 => ((impl_Digest.f k t293).bind fun t296 => (some t296))))
theorem impl_SuperOf.mono : ∀ a0 a1 a2 k, LeO (impl_SuperOf.f k a0 a1 a2) (impl_SuperOf.f (k + 1) a0 a1 a2) := by
  intro a0 a1 a2 k
  unfold impl_SuperOf.f
  have m0 := @impl_Digest.mono
  have m1 := @impl_putNum.mono
  have m2 := @impl_putText.mono
  have m3 := @impl_putTexts.mono
  exact me
theorem impl_SuperOf.calls (k : Nat) (a0 : Int) (a1 : ByteArray) (A2 : Option Addr) (c2 : Nat) (l2 : List ByteArray) (r : ByteArray) (w : World) (hr2 : Kd.C Kd.string w A2 l2.length l2) (hc2 : l2.length ≤ c2) (h : impl_SuperOf.f k a0 a1 l2 = some r) :
    Calls Try.prog 11 #[.int .i64 a0, .string a1, .slice A2 l2.length c2] w fun e w' => e = .returned (.string r) ∧ Below w.heap.size w w' := by
 have HR2 := mk0 hr2
 have HC2 := mk0 hc2
 clear hr2 hc2
 have HB := mk0 (Below.refl w.heap.size w)
 have H : ((impl_putNum.f k (([3] : List Int)) a0).bind fun t287 => ((impl_putText.f k t287 a1).bind fun t290 => ((impl_putTexts.f k t290 l2).bind fun t293 => ((impl_Digest.f k t293).bind fun t296 => (some t296))))) = some r := h
 clear h
 obtain ⟨y284, Ny284⟩ := nm (([3] : List Int))
 replace H := bd H; obtain ⟨t287, A4, H⟩ := H; rw [← Ny284.out] at A4
 replace H := bd H; obtain ⟨t290, A5, H⟩ := H
 replace H := bd H; obtain ⟨t293, A6, H⟩ := H
 replace H := bd H; obtain ⟨t296, A7, H⟩ := H
 obtain rfl := Option.some.inj H
 go_enter Try.func11, Try.ntmps11
 go_wp2_with (first | ((with_reducible refine gD 7 rfl ?_); refine lt (Kd.int .u8) 5 7 ([3] : List Int) [.int .u8 3] ?_; intro v285 w8 ho9 hb hg_ hnew_; clear hg_ hnew_; (first | rw [← Ny284.out] at ho9 | (simp only [Int.reduceToNat] at ho9; rw [← Ny284.out] at ho9)); have HO286 := mk0 (Kd.R_lower ho9 bs); replace HB := mk0 (below_step bw hb); clear hb ho9; obtain ⟨Ao10, co10, eo10⟩ := Kd.R_slice HO286.out; subst eo10) | ((with_reducible refine gC 40 (some 9) rfl rfl ?_); refine gK (some 9) Try.func40 #[.slice Ao10 y284.length co10, .int .i64 a0] (impl_putNum.calls k (fun k_ => some k_ = (.slice Ao10 y284.length co10 : Value).ownBlock) (.slice Ao10 y284.length co10) y284 a0 t287 w _ bw (Kd.R_tight rfl HO286.out) A4.out) ?_; intro v288 w11 ho0 hb hkp; have HO289 := mk0 (Kd.R_mono (ok' := fun k_ => True) ho0 (fun k_ hk_ => trivial)); replace HB := mk0 (hb); clear HO286; clear hb hkp ho0; obtain ⟨Ao12, co12, eo12⟩ := Kd.R_slice HO289.out; subst eo12) | ((with_reducible refine gC 39 (some 11) rfl rfl ?_); refine gK (some 11) Try.func39 #[.slice Ao12 t287.length co12, .string a1] (impl_putText.calls k (fun k_ => some k_ = (.slice Ao12 t287.length co12 : Value).ownBlock) (.slice Ao12 t287.length co12) t287 a1 t290 w _ bw (Kd.R_tight rfl HO289.out) A5.out) ?_; intro v291 w13 ho0 hb hkp; have HO292 := mk0 (Kd.R_mono (ok' := fun k_ => True) ho0 (fun k_ hk_ => trivial)); replace HB := mk0 (hb); clear HO289; clear hb hkp ho0; obtain ⟨Ao14, co14, eo14⟩ := Kd.R_slice HO292.out; subst eo14) | ((with_reducible refine gC 38 (some 13) rfl rfl ?_); refine gK (some 13) Try.func38 #[.slice Ao14 t290.length co14, .slice A2 l2.length c2] (impl_putTexts.calls k (fun k_ => some k_ = (.slice Ao14 t290.length co14 : Value).ownBlock) (.slice Ao14 t290.length co14) t290 _ _ l2 t293 w _ bw (Kd.R_tight rfl HO292.out) (Kd.C_kept_came Kd.heap_string HR2.out bw (fun k_ hs_ => (fun e_ => Kd.R_base HO292.out k_ e_.symm) hs_)) HC2.out A6.out) ?_; intro v294 w15 ho0 hb hkp; have HO295 := mk0 (Kd.R_mono (ok' := fun k_ => True) ho0 (fun k_ hk_ => trivial)); replace HB := mk0 (hb); clear HO292; clear hb hkp ho0; obtain ⟨Ao16, co16, eo16⟩ := Kd.R_slice HO295.out; subst eo16) | ((with_reducible refine gC 37 (some 14) rfl rfl ?_); refine gB (some 14) Try.func37 #[.slice Ao16 t293.length co16] (impl_Digest.calls k _ _ t293 t296 _ (cc ((Kd.R_reads' HO295.out).2.2)) ((Kd.R_reads' HO295.out).2.1) A7.out) ?_; intro w17 hb; replace HO295 := mk0 (Kd.R_below (rr HO295.out) hb); replace HB := mk0 (below_step bw hb); clear hb))
 go_ret
 exact ⟨sw, bw⟩
end Go.Proofs.Ytlekeiokdmnboaa.Pa
end

section
namespace Go.Proofs.Ytlekeiokdmnboaa.Pa
open Go.RowKit Go.Proofs.YtlekeiokdmnboaaW.PrintWords Go.Proofs.YtlekeiokdmnboaaW.PrintLast Go.Proofs.YtlekeiokdmnboaaW.PrintMore Go.Proofs.Ytlekeiokdmnboaa.M
attribute [local go_sem] max2_int min2_int max_two min_two max_three min_three max_four min_four   -- for this text's walks alone
set_option linter.unusedVariables false
set_option maxHeartbeats 8000000
set_option maxRecDepth 100000
set_option linter.unusedSimpArgs false

/-! ### spec_l1In: function 41 -/
def spec_l1In.f (a0 : Int) (a1 : Int) (a2 : Int) : Option (Bool) := if a0 ≥ a1 then (some (decide (a0 ≤ a2))) else (some false)
theorem spec_l1In.calls (a0 : Int) (a1 : Int) (a2 : Int) (r : Bool) (w : World) (h : spec_l1In.f a0 a1 a2 = some r) :
    Calls Try.prog 41 #[.int .i64 a0, .int .i64 a1, .int .i64 a2] w fun e w' => e = .returned (.bool r) ∧ Drawn0 w w' := by
 have H : (if a0 ≥ a1 then (some (decide (a0 ≤ a2))) else (some false)) = some r := h
 clear h
 replace H := ip H; rcases H with ⟨c4, H⟩ | ⟨c4, H⟩
 · have c4b0 : decide (a1 ≤ a0) = true := decide_eq_true c4
   clear c4
   obtain rfl := Option.some.inj H
   go_enter Try.func41, Try.ntmps41
   go_wp2
   go_ret
   exact ⟨sv, by repeat (first | exact Drawn0.refl _ | apply Drawn0.step)⟩
 · have c4b0 : decide (a1 ≤ a0) = false := decide_eq_false c4
   clear c4
   obtain rfl := Option.some.inj H
   go_enter Try.func41, Try.ntmps41
   go_wp2
   go_ret
   exact ⟨sv, by repeat (first | exact Drawn0.refl _ | apply Drawn0.step)⟩
/-! ### impl_inRange: function 42 -/
def impl_inRange.f (a0 : Int) (a1 : Int) (a2 : Int) : Option (Bool) := if a0 ≥ a1 then (some (decide (a0 ≤ a2))) else (some false)
theorem impl_inRange.calls (a0 : Int) (a1 : Int) (a2 : Int) (r : Bool) (w : World) (h : impl_inRange.f a0 a1 a2 = some r) :
    Calls Try.prog 42 #[.int .i64 a0, .int .i64 a1, .int .i64 a2] w fun e w' => e = .returned (.bool r) ∧ Drawn0 w w' := by
 have H : (if a0 ≥ a1 then (some (decide (a0 ≤ a2))) else (some false)) = some r := h
 clear h
 replace H := ip H; rcases H with ⟨c4, H⟩ | ⟨c4, H⟩
 · have c4b0 : decide (a1 ≤ a0) = true := decide_eq_true c4
   clear c4
   obtain rfl := Option.some.inj H
   go_enter Try.func42, Try.ntmps42
   go_wp2
   go_ret
   exact ⟨sv, by repeat (first | exact Drawn0.refl _ | apply Drawn0.step)⟩
 · have c4b0 : decide (a1 ≤ a0) = false := decide_eq_false c4
   clear c4
   obtain rfl := Option.some.inj H
   go_enter Try.func42, Try.ntmps42
   go_wp2
   go_ret
   exact ⟨sv, by repeat (first | exact Drawn0.refl _ | apply Drawn0.step)⟩
end Go.Proofs.Ytlekeiokdmnboaa.Pa
end

section
namespace Go.Proofs.Ytlekeiokdmnboaa.Pa
open Go.RowKit Go.Proofs.YtlekeiokdmnboaaW.PrintWords Go.Proofs.YtlekeiokdmnboaaW.PrintLast Go.Proofs.YtlekeiokdmnboaaW.PrintMore Go.Proofs.Ytlekeiokdmnboaa.M
attribute [local go_sem] max2_int min2_int max_two min_two max_three min_three max_four min_four   -- for this text's walks alone
set_option linter.unusedVariables false
set_option maxHeartbeats 8000000
set_option maxRecDepth 100000
set_option linter.unusedSimpArgs false

/-! ### spec_SealOk: function 14 -/
mutual
def spec_SealOk.j0 : Nat → Bool → Int → ByteArray → ByteArray → List ByteArray → Option (Bool)
  | 0, _, _, _, _, _ => none
  | k + 1, x20, x315000, x315001, x315002, x315003 => if x20 = true then (some false) else (spec_SealOk.l0 k 0 x315000 x315001 x315002 x315003)
def spec_SealOk.l0 : Nat → Int → Int → ByteArray → ByteArray → List ByteArray → Option (Bool)
  | 0, _, _, _, _, _ => none
  | k + 1, x3, x315000, x315001, x315002, x315003 => if x3 < (x315003.length : Int) then (if 0 ≤ x3 then (if ((rdOf ByteArray.empty x315003 x3).size : Int) = 32 then (spec_SealOk.l0 k (wrap64 (x3 + 1)) x315000 x315001 x315002 x315003) else (some false)) else (none)) else ((spec_SuperOf.f k x315000 x315001 x315003).bind fun t318 => (some (x315002.toList == t318.toList)))
end
def spec_SealOk.f (k : Nat) (a0_0 : Int) (a0_1 : ByteArray) (a0_2 : ByteArray) (l0_3 : List ByteArray) : Option (Bool) := (spec_l1In.f a0_0 1 1000).bind fun t315 => (if t315 = true then (if (a0_1.size : Int) = 32 then ((spec_l1In.f (l0_3.length : Int) 1 8).bind fun t316 => (spec_SealOk.j0 k (!t316) a0_0 a0_1 a0_2 l0_3)) else (spec_SealOk.j0 k true a0_0 a0_1 a0_2 l0_3)) else (spec_SealOk.j0 k true a0_0 a0_1 a0_2 l0_3))
theorem spec_SealOk.mono_l : ∀ k, (∀ y0 y1 y2 y3 y4, LeO (spec_SealOk.j0 k y0 y1 y2 y3 y4) (spec_SealOk.j0 (k + 1) y0 y1 y2 y3 y4)) ∧ (∀ y0 y1 y2 y3 y4, LeO (spec_SealOk.l0 k y0 y1 y2 y3 y4) (spec_SealOk.l0 (k + 1) y0 y1 y2 y3 y4))
  | 0 => ⟨fun _ _ _ _ _ r h => by simp [spec_SealOk.j0] at h, fun _ _ _ _ _ r h => by simp [spec_SealOk.l0] at h⟩
  | k + 1 => by
    obtain ⟨ih0, ih1⟩ := spec_SealOk.mono_l k
    refine ⟨?_, ?_⟩
    · intro y0 y1 y2 y3 y4
      unfold spec_SealOk.j0
      have m0 := @spec_SuperOf.mono
      exact me
    · intro y0 y1 y2 y3 y4
      unfold spec_SealOk.l0
      have m0 := @spec_SuperOf.mono
      exact me
theorem spec_SealOk.mono : ∀ a0 a1 a2 a3 k, LeO (spec_SealOk.f k a0 a1 a2 a3) (spec_SealOk.f (k + 1) a0 a1 a2 a3) := by
  intro a0 a1 a2 a3 k
  obtain ⟨ih0, ih1⟩ := spec_SealOk.mono_l k
  unfold spec_SealOk.f
  have m0 := @spec_SuperOf.mono
  exact me
def spec_SealOk.T8 : Bool × List (List Nat × List Nat) := (true, [([], []), ([0], [0]), ([], []), ([2], [2]), ([], []), ([4], [4]), ([], []), ([6], [6]), ([3, 5, 7], [3, 5, 7]), ([1, 8], [1, 8]), ([9, 8, 0, 1, 2, 3, 4, 5, 6, 7, 8, 9], [9])])
def spec_SealOk.B8 : List Nat := [0, 1, 0, 4, 0, 16, 0, 64, 252, 511, 1023]
theorem spec_SealOk.tab8 : rtab .any (opsOf Try.f14 8) = spec_SealOk.T8 := by kernel_rfl
theorem spec_SealOk.bits8 : waitsOk spec_SealOk.T8.2 spec_SealOk.B8 = true := by kernel_rfl
theorem spec_SealOk.calls (k : Nat) (a0_0 : Int) (a0_1 : ByteArray) (a0_2 : ByteArray) (A0_3 : Option Addr) (c0_3 : Nat) (l0_3 : List ByteArray) (r : Bool) (w : World) (hr0_3 : Kd.C Kd.string w A0_3 l0_3.length l0_3) (hc0_3 : l0_3.length ≤ c0_3) (h : spec_SealOk.f k a0_0 a0_1 a0_2 l0_3 = some r) :
    Calls Try.prog 14 #[.agg #[.int .i64 a0_0, .string a0_1, .string a0_2, .slice A0_3 l0_3.length c0_3]] w fun e w' => e = .returned (.bool r) ∧ Below w.heap.size w w' := by
 have hu32 := Try.underlying32
 have HR0_3 := mk0 hr0_3
 have HC0_3 := mk0 hc0_3
 clear hr0_3 hc0_3
 have HB := mk0 (Below.refl w.heap.size w)
 have H : ((spec_l1In.f a0_0 1 1000).bind fun t315 => (if t315 = true then (if (a0_1.size : Int) = 32 then ((spec_l1In.f (l0_3.length : Int) 1 8).bind fun t316 => (spec_SealOk.j0 k (!t316) a0_0 a0_1 a0_2 l0_3)) else (spec_SealOk.j0 k true a0_0 a0_1 a0_2 l0_3)) else (spec_SealOk.j0 k true a0_0 a0_1 a0_2 l0_3))) = some r := h
 clear h
 have HC2 := mk0 H; clear H
 go_enter Try.func14, Try.ntmps14
 go_upto_region 1 with (first | ((with_reducible refine gD 1 rfl ?_); (try (refine gate_guard (by rfl) ?_; dsimp only)); refine bx 1 #[.int .i64 a0_0, .string a0_1, .string a0_2, .slice A0_3 l0_3.length c0_3] 32 bw ?_; clear HB; intro gb314 w3 BK314 GW314 HB))
 (try simp only [Act.put, List.setIfInBounds_toArray, List.set_cons_zero, List.set_cons_succ])
 go_cut [20] (fun v20 wc => ∃ (kq : Nat) (x20_1 : Bool), v20 = .bool x20_1 ∧ Aside0 (spec_SealOk.j0 kq x20_1 a0_0 a0_1 a0_2 l0_3 = some r) ∧ Aside0 (kq ≤ k) ∧ Aside0 (wc.heap[gb314]? = some (.cells #[.int .i64 a0_0, .string a0_1, .string a0_2, (.slice A0_3 l0_3.length c0_3)] 32 (0, 0))) ∧ Aside0 (Below w.heap.size w wc))
 case first =>
  have H := HC2.out
  clear HC2
  replace H := bd H; obtain ⟨t315, A4, H⟩ := H
  rcases ib t315 with rfl | rfl
  · replace H := jt H
    replace H := iq H; rcases H with ⟨c6b0, c6b1, H⟩ | ⟨c6, c6b0, c6b1, H⟩
    · (first | rw [c6b0] | (simp only [i64_w, i32_w]; rw [c6b0]) | skip)
      replace H := bd H; obtain ⟨t316, A7, H⟩ := H
      have H' := mk0 H
      clear H
      obtain ⟨hcz8_0, hcz8_1, hcz8_2, hcz8_3, hfz8_0, hfz8_1, hfz8_2, hfz8_3⟩ := z4 BK314
      go_wp2_with (first | ((with_reducible refine gC 41 (some 6) rfl rfl ?_); refine gQ (some 6) Try.func41 #[.int .i64 a0_0, .int .i64 1, .int .i64 1000] (spec_l1In.calls a0_0 1 1000 true _ A4.out) ?_; intro nd) | (go_at_call 41; (with_reducible refine (spec_l1In.calls (l0_3.length : Int) 1 8 t316 _ A7.out).mono ?_); rintro e w' ⟨rfl, ⟨nd, rfl⟩⟩))
      go_meet
      case rel => exact ⟨_, (!t316), sv, H', ⟨ol⟩, ⟨kb BK314.out⟩, ⟨(bg GW314)⟩⟩
    · (first | rw [c6b0] | (simp only [i64_w, i32_w]; rw [c6b0]) | skip)
      have H' := mk0 H
      clear H
      obtain ⟨hcz9_0, hcz9_1, hcz9_2, hcz9_3, hfz9_0, hfz9_1, hfz9_2, hfz9_3⟩ := z4 BK314
      go_wp2_with (first | ((with_reducible refine gC 41 (some 6) rfl rfl ?_); refine gQ (some 6) Try.func41 #[.int .i64 a0_0, .int .i64 1, .int .i64 1000] (spec_l1In.calls a0_0 1 1000 true _ A4.out) ?_; intro nd))
      go_meet
      case rel => exact ⟨_, (true), sv, H', ⟨ol⟩, ⟨kb BK314.out⟩, ⟨(bg GW314)⟩⟩
  · replace H := jf H
    have H' := mk0 H
    clear H
    obtain ⟨hcz10_0, hcz10_1, hcz10_2, hcz10_3, hfz10_0, hfz10_1, hfz10_2, hfz10_3⟩ := z4 BK314
    go_wp2_with (first | ((with_reducible refine gC 41 (some 6) rfl rfl ?_); refine gQ (some 6) Try.func41 #[.int .i64 a0_0, .int .i64 1, .int .i64 1000] (spec_l1In.calls a0_0 1 1000 false _ A4.out) ?_; intro nd))
    go_meet
    case rel => exact ⟨_, (true), sv, H', ⟨ol⟩, ⟨kb BK314.out⟩, ⟨(bg GW314)⟩⟩
 case rest =>
  clear HC2
  (try clear c6); (try clear c6b0); (try clear c6b1); (try clear hcz10_0); (try clear hcz10_1); (try clear hcz10_2); (try clear hcz10_3); (try clear hcz8_0); (try clear hcz8_1); (try clear hcz8_2); (try clear hcz8_3); (try clear hcz9_0); (try clear hcz9_1); (try clear hcz9_2); (try clear hcz9_3); (try clear hfz10_0); (try clear hfz10_1); (try clear hfz10_2); (try clear hfz10_3); (try clear hfz8_0); (try clear hfz8_1); (try clear hfz8_2); (try clear hfz8_3); (try clear hfz9_0); (try clear hfz9_1); (try clear hfz9_2); (try clear hfz9_3)
  obtain ⟨kq, x20_1, rfl, HA, HJ1, BK314, HB⟩ := hcut
  rcases kq with _ | kj1
  · exact absurd HA.out (by simp [spec_SealOk.j0])
  have H := HA.out
  clear HA
  simp only [spec_SealOk.j0] at H
  rcases ib x20_1 with rfl | rfl
  · replace H := jt H
    obtain rfl := Option.some.inj H
    go_wp2
    go_ret
    exact ⟨sw, (bg GW314)⟩
  · replace H := jf H
    have H' := mk0 H
    clear H
    go_wp2
    go_loopg [3] kj1 (fun kq v3 w' => ∃ (x3_2 : Int), v3 = .int .i64 x3_2 ∧ Aside0 (spec_SealOk.l0 kq x3_2 a0_0 a0_1 a0_2 l0_3 = some r) ∧ Aside0 (kq ≤ kj1) ∧ Aside0 (w'.heap[gb314]? = some (.cells #[.int .i64 a0_0, .string a0_1, .string a0_2, (.slice A0_3 l0_3.length c0_3)] 32 (0, 0))) ∧ Aside0 (Below w.heap.size w w'))
    case atStart => exact ⟨(0), sv, H', nl, ⟨kb BK314.out⟩, ⟨(bg GW314)⟩⟩
    case round =>
     clear H'
     (try clear c6); (try clear c6b0); (try clear c6b1); (try clear hcz10_0); (try clear hcz10_1); (try clear hcz10_2); (try clear hcz10_3); (try clear hcz8_0); (try clear hcz8_1); (try clear hcz8_2); (try clear hcz8_3); (try clear hcz9_0); (try clear hcz9_1); (try clear hcz9_2); (try clear hcz9_3); (try clear hfz10_0); (try clear hfz10_1); (try clear hfz10_2); (try clear hfz10_3); (try clear hfz8_0); (try clear hfz8_1); (try clear hfz8_2); (try clear hfz8_3); (try clear hfz9_0); (try clear hfz9_1); (try clear hfz9_2); (try clear hfz9_3)
     obtain ⟨x3_2, rfl, HA, HK2, BK314, HB⟩ := hrel
     rcases gk with _ | k2
     · exact absurd HA.out (by simp [spec_SealOk.l0])
     have H := HA.out
     clear HA
     simp only [spec_SealOk.l0] at H
     replace H := idd H; rcases H with ⟨c12b0, H⟩ | ⟨c12b0, H⟩
     · replace H := gd H; obtain ⟨c13b0, H⟩ := H
       replace H := iq H; rcases H with ⟨c14b0, c14b1, H⟩ | ⟨c14, c14b0, c14b1, H⟩
       · have H' := mk0 H
         clear H
         obtain ⟨hcz15_0, hcz15_1, hcz15_2, hcz15_3, hfz15_0, hfz15_1, hfz15_2, hfz15_3⟩ := z4 BK314
         have p317 : 0 ≤ (x3_2 : Int) := oa
         have q317 : x3_2 < (l0_3.length : Int) := oa
         obtain ⟨ad317, e317, hx317_0⟩ := Kd.at_string HR0_3.out x3_2 p317 q317
         cases e317
         replace hx317_0 := hc HB hx317_0
         replace p317 := eq_true p317
         replace q317 := eq_true q317
         go_wp2
         go_roundg k2
         case measure => have := HJ1.out; have := HK2.out; omega
         case rel => exact ⟨(wrap64 (x3_2 + 1)), sv, H', ⟨by have := HJ1.out; have := HK2.out; omega⟩, ⟨kb BK314.out⟩, ⟨(bg GW314)⟩⟩
       · obtain rfl := Option.some.inj H
         obtain ⟨hcz16_0, hcz16_1, hcz16_2, hcz16_3, hfz16_0, hfz16_1, hfz16_2, hfz16_3⟩ := z4 BK314
         have p317 : 0 ≤ (x3_2 : Int) := oa
         have q317 : x3_2 < (l0_3.length : Int) := oa
         obtain ⟨ad317, e317, hx317_0⟩ := Kd.at_string HR0_3.out x3_2 p317 q317
         cases e317
         replace hx317_0 := hc HB hx317_0
         replace p317 := eq_true p317
         replace q317 := eq_true q317
         go_wp2
         go_ret
         exact ⟨sw, (bg GW314)⟩
     · replace H := bd H; obtain ⟨t318, A17, H⟩ := H
       obtain rfl := Option.some.inj H
       obtain ⟨hcz18_0, hcz18_1, hcz18_2, hcz18_3, hfz18_0, hfz18_1, hfz18_2, hfz18_3⟩ := z4 BK314
       try go_wp2
       replace BK314 := mk0 (blk_drew BK314.out)
       replace HB := mk0 (below_drew1 HB.out)
       refine st 11 spec_SealOk.tab8 spec_SealOk.bits8 (b4 BK314 n_) (fun hHeld HT_ HW_ => ?_)
       generalize wr.drew = w19 at BK314 HB hHeld ⊢
       refine pu 0 (some 35) HT_ ?_
       refine pu 2 (some 37) HT_ ?_
       refine pu 4 (some 39) HT_ ?_
       refine pu 6 (some 41) HT_ ?_
       refine tk 1 (some 36) HT_ HW_ hHeld ?_
       refine tk 3 (some 38) HT_ HW_ hHeld ?_
       refine tk 5 (some 40) HT_ HW_ hHeld ?_
       refine tk 7 (some 42) HT_ HW_ hHeld ?_
       refine on 8 (some 43) HT_ (fun K hK => ?_)
       refine oB Try.func9 #[.int .i64 a0_0, .string a0_1, .slice A0_3 l0_3.length c0_3] (spec_SuperOf.calls k2 a0_0 a0_1 _ _ l0_3 t318 _ (cc (Kd.C_below HR0_3.out HB.out)) HC0_3.out A17.out) ?_
       intro w20 hb
       replace BK314 := mk0 (blk_below (kb BK314.out) hb)
       replace HB := mk0 (below_step (bg GW314) hb)
       (try clear hb)
       refine hK.out _ _ ah (fun hHeld => ?_)
       clear hK K
       refine nr (some 43) ?_
       refine pu 9 (some 44) HT_ ?_
       refine pu 10 (some 2) HT_ ?_
       refine dn HT_ ?_
       try go_wp2
       go_ret
       exact ⟨sw, (bg GW314)⟩
/-! ### impl_SealOk: function 16 -/
def impl_SealOk.l0 : Nat → List ByteArray → Int → Int → Int → ByteArray → ByteArray → List ByteArray → Option (Bool)
  | 0, _, _, _, _, _, _, _ => none
  | k + 1, x6, x7, x8, x326000, x326001, x326002, x326003 => if x8 < x7 then (if 0 ≤ x8 then (if x8 < (x6.length : Int) then (if ((rdOf ByteArray.empty x6 x8).size : Int) = 32 then (impl_SealOk.l0 k x6 x7 (wrap64 (x8 + 1)) x326000 x326001 x326002 x326003) else (some false)) else (none)) else (none)) else ((impl_inRange.f x326000 1 1000).bind fun t327 => (if t327 = true then (if (x326001.size : Int) = 32 then ((impl_inRange.f (x326003.length : Int) 1 8).bind fun t328 => (if t328 = true then ((impl_SuperOf.f k x326000 x326001 x326003).bind fun t329 => (some (x326002.toList == t329.toList))) else (some false))) else (some false)) else (some false)))
def impl_SealOk.f (k : Nat) (a0_0 : Int) (a0_1 : ByteArray) (a0_2 : ByteArray) (l0_3 : List ByteArray) : Option (Bool) := impl_SealOk.l0 k l0_3 (l0_3.length : Int) 0 a0_0 a0_1 a0_2 l0_3
theorem impl_SealOk.mono_l : ∀ k, (∀ y0 y1 y2 y3 y4 y5 y6, LeO (impl_SealOk.l0 k y0 y1 y2 y3 y4 y5 y6) (impl_SealOk.l0 (k + 1) y0 y1 y2 y3 y4 y5 y6))
  | 0 => fun _ _ _ _ _ _ _ r h => by simp [impl_SealOk.l0] at h
  | k + 1 => by
    have ih0 := impl_SealOk.mono_l k
    · intro y0 y1 y2 y3 y4 y5 y6
      unfold impl_SealOk.l0
      have m0 := @impl_SuperOf.mono
      exact me
theorem impl_SealOk.mono : ∀ a0 a1 a2 a3 k, LeO (impl_SealOk.f k a0 a1 a2 a3) (impl_SealOk.f (k + 1) a0 a1 a2 a3) := by
  intro a0 a1 a2 a3 k
  have ih0 := impl_SealOk.mono_l k
  unfold impl_SealOk.f
  have m0 := @impl_SuperOf.mono
  exact me
def impl_SealOk.T9 : Bool × List (List Nat × List Nat) := (true, [([], []), ([0], [0]), ([], []), ([2], [2]), ([], []), ([4], [4]), ([], []), ([6], [6]), ([3, 5, 7], [3, 5, 7]), ([1, 8], [1, 8]), ([9, 8, 0, 1, 2, 3, 4, 5, 6, 7, 8, 9], [9])])
def impl_SealOk.B9 : List Nat := [0, 1, 0, 4, 0, 16, 0, 64, 252, 511, 1023]
theorem impl_SealOk.tab9 : rtab .any (opsOf Try.f16 9) = impl_SealOk.T9 := by kernel_rfl
theorem impl_SealOk.bits9 : waitsOk impl_SealOk.T9.2 impl_SealOk.B9 = true := by kernel_rfl
theorem impl_SealOk.calls (k : Nat) (a0_0 : Int) (a0_1 : ByteArray) (a0_2 : ByteArray) (A0_3 : Option Addr) (c0_3 : Nat) (l0_3 : List ByteArray) (r : Bool) (w : World) (hr0_3 : Kd.C Kd.string w A0_3 l0_3.length l0_3) (hc0_3 : l0_3.length ≤ c0_3) (h : impl_SealOk.f k a0_0 a0_1 a0_2 l0_3 = some r) :
    Calls Try.prog 16 #[.agg #[.int .i64 a0_0, .string a0_1, .string a0_2, .slice A0_3 l0_3.length c0_3]] w fun e w' => e = .returned (.bool r) ∧ Below w.heap.size w w' := by
 have hu32 := Try.underlying32
 have HR0_3 := mk0 hr0_3
 have HC0_3 := mk0 hc0_3
 clear hr0_3 hc0_3
 have HB := mk0 (Below.refl w.heap.size w)
 have H : (impl_SealOk.l0 k l0_3 (l0_3.length : Int) 0 a0_0 a0_1 a0_2 l0_3) = some r := h
 clear h
 have H' := mk0 H
 clear H
 go_enter Try.func16, Try.ntmps16
 go_wp2_with (first | ((with_reducible refine gD 1 rfl ?_); (try (refine gate_guard (by rfl) ?_; dsimp only)); refine bx 1 #[.int .i64 a0_0, .string a0_1, .string a0_2, .slice A0_3 l0_3.length c0_3] 32 bw ?_; clear HB; intro gb325 w2 BK325 GW325 HB; obtain ⟨hcz3_0, hcz3_1, hcz3_2, hcz3_3, hfz3_0, hfz3_1, hfz3_2, hfz3_3⟩ := z4 BK325))
 go_loopg [8] k (fun kq v8 w' => ∃ (x8_1 : Int), v8 = .int .i64 x8_1 ∧ Aside0 (impl_SealOk.l0 kq l0_3 (l0_3.length : Int) x8_1 a0_0 a0_1 a0_2 l0_3 = some r) ∧ Aside0 (kq ≤ k) ∧ Aside0 (w'.heap[gb325]? = some (.cells #[.int .i64 a0_0, .string a0_1, .string a0_2, (.slice A0_3 l0_3.length c0_3)] 32 (0, 0))) ∧ Aside0 (Below w.heap.size w w'))
 case atStart => exact ⟨(0), sv, H', nl, ⟨kb BK325.out⟩, ⟨(bg GW325)⟩⟩
 case round =>
  clear H'
  (try clear hcz3_0); (try clear hcz3_1); (try clear hcz3_2); (try clear hcz3_3); (try clear hfz3_0); (try clear hfz3_1); (try clear hfz3_2); (try clear hfz3_3)
  obtain ⟨x8_1, rfl, HA, HK1, BK325, HB⟩ := hrel
  rcases gk with _ | k1
  · exact absurd HA.out (by simp [impl_SealOk.l0])
  have H := HA.out
  clear HA
  simp only [impl_SealOk.l0] at H
  replace H := idd H; rcases H with ⟨c4b0, H⟩ | ⟨c4b0, H⟩
  · replace H := gd H; obtain ⟨c5b0, H⟩ := H
    replace H := gd H; obtain ⟨c6b0, H⟩ := H
    replace H := iq H; rcases H with ⟨c7b0, c7b1, H⟩ | ⟨c7, c7b0, c7b1, H⟩
    · have H' := mk0 H
      clear H
      have p326 : 0 ≤ (x8_1 : Int) := oa
      have q326 : x8_1 < (l0_3.length : Int) := oa
      obtain ⟨ad326, e326, hx326_0⟩ := Kd.at_string HR0_3.out x8_1 p326 q326
      cases e326
      replace hx326_0 := hc HB hx326_0
      replace p326 := eq_true p326
      replace q326 := eq_true q326
      go_wp2
      go_roundg k1
      case measure => have := HK1.out; omega
      case rel => exact ⟨(wrap64 (x8_1 + 1)), sv, H', hk1, ⟨kb BK325.out⟩, ⟨(bg GW325)⟩⟩
    · obtain rfl := Option.some.inj H
      have p326 : 0 ≤ (x8_1 : Int) := oa
      have q326 : x8_1 < (l0_3.length : Int) := oa
      obtain ⟨ad326, e326, hx326_0⟩ := Kd.at_string HR0_3.out x8_1 p326 q326
      cases e326
      replace hx326_0 := hc HB hx326_0
      replace p326 := eq_true p326
      replace q326 := eq_true q326
      go_wp2
      go_ret
      exact ⟨sw, (bg GW325)⟩
  · replace H := bd H; obtain ⟨t327, A8, H⟩ := H
    rcases ib t327 with rfl | rfl
    · replace H := jt H
      replace H := iq H; rcases H with ⟨c10b0, c10b1, H⟩ | ⟨c10, c10b0, c10b1, H⟩
      · replace H := bd H; obtain ⟨t328, A11, H⟩ := H
        rcases ib t328 with rfl | rfl
        · replace H := jt H
          replace H := bd H; obtain ⟨t329, A13, H⟩ := H
          obtain rfl := Option.some.inj H
          obtain ⟨hcz14_0, hcz14_1, hcz14_2, hcz14_3, hfz14_0, hfz14_1, hfz14_2, hfz14_3⟩ := z4 BK325
          try go_wp2_with (first | ((with_reducible refine gC 42 (some 18) rfl rfl ?_); refine gQ (some 18) Try.func42 #[.int .i64 a0_0, .int .i64 1, .int .i64 1000] (impl_inRange.calls a0_0 1 1000 true _ A8.out) ?_; intro nd) | (go_at_call 42; (with_reducible refine (impl_inRange.calls (l0_3.length : Int) 1 8 true _ A11.out).mono ?_); rintro e w' ⟨rfl, ⟨nd, rfl⟩⟩))
          (try (rw [drewN_self wr]; generalize hq_ : World.drewN wr _ = wr; have n0_ : Aside0 (wr.heap[gb325]? = some (.cells #[.int .i64 a0_0, .string a0_1, .string a0_2, .slice A0_3 l0_3.length c0_3] 32 (0, 0))) := ⟨by rw [← hq_]; exact (kb BK325.out)⟩; have n1_ : Aside0 (Below w.heap.size w wr) := ⟨by rw [← hq_]; exact (bg GW325)⟩; clear BK325 HB hq_; have BK325 := n0_; have HB := n1_; clear n0_ n1_))
          replace BK325 := mk0 (blk_drew BK325.out)
          replace HB := mk0 (below_drew1 HB.out)
          refine st 11 impl_SealOk.tab9 impl_SealOk.bits9 (b4 BK325 n_) (fun hHeld HT_ HW_ => ?_)
          generalize wr.drew = w15 at BK325 HB hHeld ⊢
          refine pu 0 (some 33) HT_ ?_
          refine pu 2 (some 35) HT_ ?_
          refine pu 4 (some 37) HT_ ?_
          refine pu 6 (some 39) HT_ ?_
          refine tk 1 (some 34) HT_ HW_ hHeld ?_
          refine tk 3 (some 36) HT_ HW_ hHeld ?_
          refine tk 5 (some 38) HT_ HW_ hHeld ?_
          refine tk 7 (some 40) HT_ HW_ hHeld ?_
          refine on 8 (some 41) HT_ (fun K hK => ?_)
          refine oB Try.func11 #[.int .i64 a0_0, .string a0_1, .slice A0_3 l0_3.length c0_3] (impl_SuperOf.calls k1 a0_0 a0_1 _ _ l0_3 t329 _ (cc (Kd.C_below HR0_3.out HB.out)) HC0_3.out A13.out) ?_
          intro w16 hb
          replace BK325 := mk0 (blk_below (kb BK325.out) hb)
          replace HB := mk0 (below_step (bg GW325) hb)
          (try clear hb)
          refine hK.out _ _ ah (fun hHeld => ?_)
          clear hK K
          refine nr (some 41) ?_
          refine pu 9 (some 42) HT_ ?_
          refine pu 10 (some 2) HT_ ?_
          refine dn HT_ ?_
          try go_wp2
          go_ret
          exact ⟨sw, (bg GW325)⟩
        · replace H := jf H
          obtain rfl := Option.some.inj H
          obtain ⟨hcz17_0, hcz17_1, hcz17_2, hcz17_3, hfz17_0, hfz17_1, hfz17_2, hfz17_3⟩ := z4 BK325
          go_wp2_with (first | ((with_reducible refine gC 42 (some 18) rfl rfl ?_); refine gQ (some 18) Try.func42 #[.int .i64 a0_0, .int .i64 1, .int .i64 1000] (impl_inRange.calls a0_0 1 1000 true _ A8.out) ?_; intro nd) | (go_at_call 42; (with_reducible refine (impl_inRange.calls (l0_3.length : Int) 1 8 false _ A11.out).mono ?_); rintro e w' ⟨rfl, ⟨nd, rfl⟩⟩))
          go_ret
          exact ⟨sw, (bg GW325)⟩
      · obtain rfl := Option.some.inj H
        obtain ⟨hcz18_0, hcz18_1, hcz18_2, hcz18_3, hfz18_0, hfz18_1, hfz18_2, hfz18_3⟩ := z4 BK325
        go_wp2_with (first | ((with_reducible refine gC 42 (some 18) rfl rfl ?_); refine gQ (some 18) Try.func42 #[.int .i64 a0_0, .int .i64 1, .int .i64 1000] (impl_inRange.calls a0_0 1 1000 true _ A8.out) ?_; intro nd))
        go_ret
        exact ⟨sw, (bg GW325)⟩
    · replace H := jf H
      obtain rfl := Option.some.inj H
      obtain ⟨hcz19_0, hcz19_1, hcz19_2, hcz19_3, hfz19_0, hfz19_1, hfz19_2, hfz19_3⟩ := z4 BK325
      go_wp2_with (first | ((with_reducible refine gC 42 (some 18) rfl rfl ?_); refine gQ (some 18) Try.func42 #[.int .i64 a0_0, .int .i64 1, .int .i64 1000] (impl_inRange.calls a0_0 1 1000 false _ A8.out) ?_; intro nd))
      go_ret
      exact ⟨sw, (bg GW325)⟩
end Go.Proofs.Ytlekeiokdmnboaa.Pa
end

section
namespace Go.Proofs.Ytlekeiokdmnboaa.Pa
open Go.RowKit Go.Proofs.YtlekeiokdmnboaaW.PrintWords Go.Proofs.YtlekeiokdmnboaaW.PrintLast Go.Proofs.YtlekeiokdmnboaaW.PrintMore Go.Proofs.Ytlekeiokdmnboaa.M
attribute [local go_sem] max2_int min2_int max_two min_two max_three min_three max_four min_four   -- for this text's walks alone
set_option linter.unusedVariables false
set_option maxHeartbeats 8000000
set_option maxRecDepth 100000
set_option linter.unusedSimpArgs false

/-! ### spec_l15Prev: function 46 -/
def spec_l15Prev.f (k : Nat) (l0 : List (S32)) : Option (ByteArray) := if (l0.length : Int) = 0 then ((spec_Digest.f k (([] : List Int))).bind fun t363 => (some t363)) else (if 0 ≤ (wrap64 ((l0.length : Int) - 1)) then (if (wrap64 ((l0.length : Int) - 1)) < (l0.length : Int) then (some ((rd_T32 l0 (wrap64 ((l0.length : Int) - 1))).f2)) else (none)) else (none))
theorem spec_l15Prev.mono : ∀ a0 k, LeO (spec_l15Prev.f k a0) (spec_l15Prev.f (k + 1) a0) := by
  intro a0 k
  unfold spec_l15Prev.f
  have m0 := @spec_Digest.mono
  exact me
theorem spec_l15Prev.calls (k : Nat) (A0 : Option Addr) (c0 : Nat) (l0 : List (S32)) (r : ByteArray) (w : World) (hr0 : Kd.C k32 w A0 l0.length l0) (hc0 : l0.length ≤ c0) (h : spec_l15Prev.f k l0 = some r) :
    Calls Try.prog 46 #[.slice A0 l0.length c0] w fun e w' => e = .returned (.string r) ∧ Below w.heap.size w w' := by
 have HR0 := mk0 hr0
 have HC0 := mk0 hc0
 clear hr0 hc0
 have HB := mk0 (Below.refl w.heap.size w)
 have H : (if (l0.length : Int) = 0 then ((spec_Digest.f k (([] : List Int))).bind fun t363 => (some t363)) else (if 0 ≤ (wrap64 ((l0.length : Int) - 1)) then (if (wrap64 ((l0.length : Int) - 1)) < (l0.length : Int) then (some ((rd_T32 l0 (wrap64 ((l0.length : Int) - 1))).f2)) else (none)) else (none))) = some r := h
 clear h
 replace H := iq H; rcases H with ⟨c2b0, c2b1, H⟩ | ⟨c2, c2b0, c2b1, H⟩
 · obtain ⟨y360, hy360⟩ : ∃ y_ : List Int, y_ = (([] : List Int)) := ⟨_, rfl⟩
   replace H : ((spec_Digest.f k y360).bind fun t363 => (some t363)) = some r := by first | (rw [hy360]; with_reducible exact H) | (have H2_ := (Option.bind_some _ _).symm.trans H; rw [hy360]; with_reducible exact H2_) | (have H2_ := (Option.bind_some _ _).symm.trans H; with_reducible exact H2_) | with_reducible exact H | (rw [hy360]; exact H) | exact H
   have Ny360 := mk0 hy360
   clear hy360
   replace H := bd H; obtain ⟨t363, A3, H⟩ := H
   obtain rfl := Option.some.inj H
   go_enter Try.func46, Try.ntmps46
   go_wp2_with (first | ((with_reducible refine gD 6 rfl ?_); refine lt (Kd.int .u8) 5 6 ([] : List Int) [] ?_; intro v361 w4 ho5 hb hg_ hnew_; clear hg_ hnew_; (first | rw [← Ny360.out] at ho5 | (simp only [Int.reduceToNat] at ho5; rw [← Ny360.out] at ho5)); have HO362 := mk0 (Kd.R_lower ho5 bs); replace HB := mk0 (below_step bw hb); clear hb ho5; obtain ⟨Ao6, co6, eo6⟩ := Kd.R_slice HO362.out; subst eo6) | ((with_reducible refine gC 35 (some 7) rfl rfl ?_); refine gB (some 7) Try.func35 #[.slice Ao6 y360.length co6] (spec_Digest.calls k _ _ y360 t363 _ (cc ((Kd.R_reads' HO362.out).2.2)) ((Kd.R_reads' HO362.out).2.1) A3.out) ?_; intro w7 hb; replace HO362 := mk0 (Kd.R_below (rr HO362.out) hb); replace HB := mk0 (below_step bw hb); clear hb))
   go_ret
   exact ⟨sw, bw⟩
 · have c2b2 : ¬ (l0 = []) := fun h_ => c2 (by rw [h_]; rfl)
   obtain ⟨ji8, hji8⟩ : ∃ j_ : Int, (wrap64 ((l0.length : Int) - 1)) = j_ := ⟨_, rfl⟩
   replace H : (if 0 ≤ (ji8) then (if (ji8) < (l0.length : Int) then (some ((rd_T32 l0 (ji8)).f2)) else (none)) else (none)) = some r := by first | (rw [hji8] at H; exact H) | (simp only [hji8] at H ⊢; exact H)
   have hji8w : (IntKind.i64.wrap ((l0.length : Int) - 1)) = ji8 := (i64_w _).trans hji8
   replace H := gd H; obtain ⟨c9b0, H⟩ := H
   replace H := gd H; obtain ⟨c10b0, H⟩ := H
   obtain rfl := Option.some.inj H
   have p364 : 0 ≤ ((ji8) : Int) := oa
   have q364 : (ji8) < (l0.length : Int) := oa
   obtain ⟨ad364, A364_3, c364_3, e364, hx364_0, hx364_1, hx364_2, hx364_3, hl364_3, hi364_3⟩ := at_T32 HR0.out (ji8) p364 q364
   cases e364
   have HR364_3 := mk0 hi364_3
   have HC364_3 := mk0 hl364_3
   clear hi364_3 hl364_3
   replace p364 := eq_true p364
   replace q364 := eq_true q364
   go_enter Try.func46, Try.ntmps46
   go_wp2
   go_ret
   exact ⟨by first | rfl | (simp [errW_none, errW_some] <;> rfl) | (simp only [← hji8]; first | rfl | (simp [errW_none, errW_some] <;> rfl)) | (simp [*, errW_none, errW_some] <;> rfl), bw⟩
/-! ### impl_prevOf: function 45 -/
def impl_prevOf.f (k : Nat) (l0 : List (S32)) : Option (ByteArray) := if (l0.length : Int) = 0 then ((impl_Digest.f k ([] : List Int)).bind fun t511 => (some t511)) else (if 0 ≤ (wrap64 ((l0.length : Int) - 1)) then (if (wrap64 ((l0.length : Int) - 1)) < (l0.length : Int) then (some ((rd_T32 l0 (wrap64 ((l0.length : Int) - 1))).f2)) else (none)) else (none))
theorem impl_prevOf.mono : ∀ a0 k, LeO (impl_prevOf.f k a0) (impl_prevOf.f (k + 1) a0) := by
  intro a0 k
  unfold impl_prevOf.f
  have m0 := @impl_Digest.mono
  exact me
theorem impl_prevOf.calls (k : Nat) (A0 : Option Addr) (c0 : Nat) (l0 : List (S32)) (r : ByteArray) (w : World) (hr0 : Kd.C k32 w A0 l0.length l0) (hc0 : l0.length ≤ c0) (h : impl_prevOf.f k l0 = some r) :
    Calls Try.prog 45 #[.slice A0 l0.length c0] w fun e w' => e = .returned (.string r) ∧ Below w.heap.size w w' := by
 have HR0 := mk0 hr0
 have HC0 := mk0 hc0
 clear hr0 hc0
 have HB := mk0 (Below.refl w.heap.size w)
 have H : (if (l0.length : Int) = 0 then ((impl_Digest.f k ([] : List Int)).bind fun t511 => (some t511)) else (if 0 ≤ (wrap64 ((l0.length : Int) - 1)) then (if (wrap64 ((l0.length : Int) - 1)) < (l0.length : Int) then (some ((rd_T32 l0 (wrap64 ((l0.length : Int) - 1))).f2)) else (none)) else (none))) = some r := h
 clear h
 replace H := iq H; rcases H with ⟨c2b0, c2b1, H⟩ | ⟨c2, c2b0, c2b1, H⟩
 · replace H := bd H; obtain ⟨t511, A3, H⟩ := H
   obtain rfl := Option.some.inj H
   go_enter Try.func45, Try.ntmps45
   go_wp2_with (first | ((with_reducible refine gC 37 (some 6) rfl rfl ?_); refine gB (some 6) Try.func37 #[.slice none 0 0] (impl_Digest.calls k _ _ ([] : List Int) t511 _ (Kd.C_nil _ _) (Nat.le_refl _) A3.out) ?_; intro w4 hb; replace HB := mk0 (below_step bw hb); clear hb))
   go_ret
   exact ⟨sw, bw⟩
 · have c2b2 : ¬ (l0 = []) := fun h_ => c2 (by rw [h_]; rfl)
   obtain ⟨ji5, hji5⟩ : ∃ j_ : Int, (wrap64 ((l0.length : Int) - 1)) = j_ := ⟨_, rfl⟩
   replace H : (if 0 ≤ (ji5) then (if (ji5) < (l0.length : Int) then (some ((rd_T32 l0 (ji5)).f2)) else (none)) else (none)) = some r := by first | (rw [hji5] at H; exact H) | (simp only [hji5] at H ⊢; exact H)
   have hji5w : (IntKind.i64.wrap ((l0.length : Int) - 1)) = ji5 := (i64_w _).trans hji5
   replace H := gd H; obtain ⟨c6b0, H⟩ := H
   replace H := gd H; obtain ⟨c7b0, H⟩ := H
   obtain rfl := Option.some.inj H
   have p512 : 0 ≤ ((ji5) : Int) := oa
   have q512 : (ji5) < (l0.length : Int) := oa
   obtain ⟨ad512, A512_3, c512_3, e512, hx512_0, hx512_1, hx512_2, hx512_3, hl512_3, hi512_3⟩ := at_T32 HR0.out (ji5) p512 q512
   cases e512
   have HR512_3 := mk0 hi512_3
   have HC512_3 := mk0 hl512_3
   clear hi512_3 hl512_3
   replace p512 := eq_true p512
   replace q512 := eq_true q512
   go_enter Try.func45, Try.ntmps45
   go_wp2
   go_ret
   exact ⟨by first | rfl | (simp [errW_none, errW_some] <;> rfl) | (simp only [← hji5]; first | rfl | (simp [errW_none, errW_some] <;> rfl)) | (simp [*, errW_none, errW_some] <;> rfl), bw⟩
end Go.Proofs.Ytlekeiokdmnboaa.Pa
end

section
namespace Go.Proofs.Ytlekeiokdmnboaa.Pa
open Go.RowKit Go.Proofs.YtlekeiokdmnboaaW.PrintWords Go.Proofs.YtlekeiokdmnboaaW.PrintLast Go.Proofs.YtlekeiokdmnboaaW.PrintMore Go.Proofs.Ytlekeiokdmnboaa.M
attribute [local go_sem] max2_int min2_int max_two min_two max_three min_three max_four min_four   -- for this text's walks alone
set_option linter.unusedVariables false
set_option maxHeartbeats 8000000
set_option maxRecDepth 100000
set_option linter.unusedSimpArgs false

/-! ### laws_big: function 18 -/
def laws_big.f (l0 : List Int) : Option (Bool) := some (decide ((l0.length : Int) > 1048576))
theorem laws_big.calls (A0 : Option Addr) (c0 : Nat) (l0 : List Int) (r : Bool) (w : World) (hr0 : Kd.C (Kd.int .u8) w A0 l0.length l0) (hc0 : l0.length ≤ c0) (h : laws_big.f l0 = some r) :
    Calls Try.prog 18 #[.slice A0 l0.length c0] w fun e w' => e = .returned (.bool r) ∧ Drawn0 w w' := by
 have HR0 := mk0 hr0
 have HC0 := mk0 hc0
 clear hr0 hc0
 have H : (some (decide ((l0.length : Int) > 1048576))) = some r := h
 clear h
 obtain rfl := Option.some.inj H
 go_enter Try.func18, Try.ntmps18
 go_wp2
 go_ret
 exact ⟨sv, by repeat (first | exact Drawn0.refl _ | apply Drawn0.step)⟩
/-- A state of type 101 at block g of W; what its slices lead to came in by w0. -/
def IsS101 (w0 W : World) (g : Nat) (f0 : List Int) (f1 : Int) (f2 : Int) : Prop := ∃ A0 c0, W.heap[g]? = some (.cells #[.slice A0 f0.length c0, .int .i64 f1, .int .i64 f2] 101 (0, 0)) ∧ w0.heap.size ≤ g ∧ Kd.C (Kd.int .u8) w0 A0 f0.length f0
theorem IsS101.grown {w0 W : World} {g : Nat} {f0 : List Int} {f1 : Int} {f2 : Int} {W1 : World} {row : Option Nat} (h : IsS101 w0 W g f0 f1 f2) (hw : W.grownBy W1 row) (hne : some g ≠ row) : IsS101 w0 W1 g f0 f1 f2 := by
  obtain ⟨A0, c0, hb, hg, hr0⟩ := h
  exact ⟨A0, c0, blk_grown hb hw hne, hg, hr0⟩
theorem IsS101.own_neN {w0 W : World} {g : Nat} {f0 : List Int} {f1 : Int} {f2 : Int} {α : Type} {d : Kd α} {e : Nat} {base : Nat} {ok : Nat → Prop} {v : Value} {xs : List α} (h : IsS101 w0 W g f0 f1 f2) (ho : Kd.N d e W base ok v xs) (ht : e ≠ 101) : some g ≠ v.ownBlock := by
  obtain ⟨A0, c0, hb, hg, hr0⟩ := h
  exact Kd.N_ne ho hb ht
theorem IsS101.fresh {w0 W : World} {g : Nat} {f0 : List Int} {f1 : Int} {f2 : Int} (h : IsS101 w0 W g f0 f1 f2) : ∀ k, W.heap.size ≤ k → k ≠ g := by
  obtain ⟨A0, c0, hb, hg, hr0⟩ := h
  exact Kd.freshB hb
theorem IsS101.kept {w0 W : World} {g : Nat} {f0 : List Int} {f1 : Int} {f2 : Int} {W1 : World} {S : Nat → Prop} (h : IsS101 w0 W g f0 f1 f2) (hk : Kept W W1 S) (hne : ¬ S g) : IsS101 w0 W1 g f0 f1 f2 := by
  obtain ⟨A0, c0, hb, hg, hr0⟩ := h
  exact ⟨A0, c0, blk_kept hb hk hne, hg, hr0⟩
theorem IsS101.below {w0 W : World} {g : Nat} {f0 : List Int} {f1 : Int} {f2 : Int} {W1 : World} (h : IsS101 w0 W g f0 f1 f2) (hw : Below W.heap.size W W1) : IsS101 w0 W1 g f0 f1 f2 := h.grown (grown_of_below hw none) (by simp)
theorem IsS101.alloc {w0 W : World} {g : Nat} {f0 : List Int} {f1 : Int} {f2 : Int} (h : IsS101 w0 W g f0 f1 f2) (o : Obj) : IsS101 w0 (W.alloc o) g f0 f1 f2 := h.below (below_alloc (Below.refl _ _) o)
theorem IsS101.drewN {w0 W : World} {g : Nat} {f0 : List Int} {f1 : Int} {f2 : Int} (h : IsS101 w0 W g f0 f1 f2) (m : Nat) : IsS101 w0 (W.drewN m) g f0 f1 f2 := h
theorem IsS101.drew {w0 W : World} {g : Nat} {f0 : List Int} {f1 : Int} {f2 : Int} (h : IsS101 w0 W g f0 f1 f2) : IsS101 w0 W.drew g f0 f1 f2 := h
theorem IsS101.at_ {w0 W : World} {g : Nat} {f0 : List Int} {f1 : Int} {f2 : Int} {w' : World} {m : Nat} (hq : W.drewN m = w') (h : IsS101 w0 W g f0 f1 f2) : IsS101 w0 w' g f0 f1 f2 := by subst hq; exact IsS101.drewN h m
theorem IsS101.apart {w0 W : World} {g : Nat} {f0 : List Int} {f1 : Int} {f2 : Int} {α : Type} {d : Kd α} {e : Nat} {base : Nat} {ok : Nat → Prop} {v : Value} {xs : List α} (h : IsS101 w0 W g f0 f1 f2) (ho : d.R e W base ok v xs) (ht : ∀ q, q ∈ e :: d.E → q ≠ 101) : d.R e W base (fun k => ok k ∧ k ≠ g) v xs := by
  obtain ⟨A0, c0, hb, hg, hr0⟩ := h
  exact Kd.R_types ho hb ht
theorem IsS101.own_ne {w0 W : World} {g : Nat} {f0 : List Int} {f1 : Int} {f2 : Int} {α : Type} {d : Kd α} {e : Nat} {base : Nat} {ok : Nat → Prop} {v : Value} {xs : List α} (h : IsS101 w0 W g f0 f1 f2) (ho : d.R e W base ok v xs) (ht : e ≠ 101) : some g ≠ v.ownBlock := by
  obtain ⟨A0, c0, hb, hg, hr0⟩ := h
  exact Kd.R_ne ho hb ht
theorem IsS101.apartQ {w0 W : World} {g : Nat} {f0 : List Int} {f1 : Int} {f2 : Int} {α : Type} {d : Kd α} {e : Nat} {base : Nat} {ok : Nat → Prop} {v : Value} {xs : List α} (h : IsS101 w0 W g f0 f1 f2) (ho : d.Q e W base ok v xs) (ht : ∀ q, q ∈ e :: d.E → q ≠ 101) : d.Q e W base (fun k => ok k ∧ k ≠ g) v xs := by
  obtain ⟨A0, c0, hb, hg, hr0⟩ := h
  exact Kd.Q_types ho hb ht
theorem IsS101.own_neQ {w0 W : World} {g : Nat} {f0 : List Int} {f1 : Int} {f2 : Int} {α : Type} {d : Kd α} {e : Nat} {base : Nat} {ok : Nat → Prop} {v : Value} {xs : List α} (h : IsS101 w0 W g f0 f1 f2) (ho : d.Q e W base ok v xs) (ht : e ≠ 101) : some g ≠ v.ownBlock := by
  obtain ⟨A0, c0, hb, hg, hr0⟩ := h
  exact Kd.Q_ne ho hb ht
theorem IsS101.apartS {w0 W : World} {g : Nat} {f0 : List Int} {f1 : Int} {f2 : Int} {α : Type} {d : Kd α} {e : Nat} {base : Nat} {ok : Nat → Prop} {v : Value} {xs : List α} (h : IsS101 w0 W g f0 f1 f2) (ho : d.S e W base ok v xs) (ht : ∀ q, q ∈ e :: d.E → q ≠ 101) : d.S e W base (fun k => ok k ∧ k ≠ g) v xs := by
  obtain ⟨A0, c0, hb, hg, hr0⟩ := h
  exact Kd.S_types ho hb ht
theorem IsS101.own_neS {w0 W : World} {g : Nat} {f0 : List Int} {f1 : Int} {f2 : Int} {α : Type} {d : Kd α} {e : Nat} {base : Nat} {ok : Nat → Prop} {v : Value} {xs : List α} (h : IsS101 w0 W g f0 f1 f2) (ho : d.S e W base ok v xs) (ht : e ≠ 101) : some g ≠ v.ownBlock := by
  obtain ⟨A0, c0, hb, hg, hr0⟩ := h
  exact Kd.S_ne ho hb ht
theorem IsS101.lt {w0 W : World} {g : Nat} {f0 : List Int} {f1 : Int} {f2 : Int} (h : IsS101 w0 W g f0 f1 f2) : g < W.heap.size := by
  obtain ⟨A0, c0, hb, hg, hr0⟩ := h
  exact blk_lt hb
theorem IsS101.ge {w0 W : World} {g : Nat} {f0 : List Int} {f1 : Int} {f2 : Int} (h : IsS101 w0 W g f0 f1 f2) : w0.heap.size ≤ g := by
  obtain ⟨A0, c0, hb, hg, hr0⟩ := h
  exact hg
theorem IsS101.ne_blk {w0 W : World} {g : Nat} {f0 : List Int} {f1 : Int} {f2 : Int} {a : Nat} {cs : Array Value} {t : TypeId} {fr : Nat × Nat} (h : IsS101 w0 W g f0 f1 f2) (hb2 : W.heap[a]? = some (.cells cs t fr)) (ht : t ≠ 101) : g ≠ a := by
  obtain ⟨A0, c0, hb, hg, hr0⟩ := h
  rintro rfl
  rw [hb] at hb2
  injection hb2 with hb2
  injection hb2 with _ ht2
  exact ht ht2.symm
theorem IsS101.far {w0 W : World} {g : Nat} {f0 : List Int} {f1 : Int} {f2 : Int} {p : Addr} (h : IsS101 w0 W g f0 f1 f2) (hne : g ≠ p.block) (u : Value) : IsS101 w0 (W.setCell p u) g f0 f1 f2 := by
  obtain ⟨A0, c0, hb, hg, hr0⟩ := h
  exact ⟨A0, c0, blk_far hb hne u, hg, hr0⟩
theorem cellS101_0 {W : World} {g : Nat} {A0 : Option Addr} {c0 : Nat} {f0 : List Int} {f1 : Int} {f2 : Int} (h : W.heap[g]? = some (.cells #[.slice A0 f0.length c0, .int .i64 f1, .int .i64 f2] 101 (0, 0))) : W.cell? ⟨g, 0, none⟩ = some (.slice A0 f0.length c0) := (blk_cell h 0).trans rfl
theorem cellS101_1 {W : World} {g : Nat} {A0 : Option Addr} {c0 : Nat} {f0 : List Int} {f1 : Int} {f2 : Int} (h : W.heap[g]? = some (.cells #[.slice A0 f0.length c0, .int .i64 f1, .int .i64 f2] 101 (0, 0))) : W.cell? ⟨g, 1, none⟩ = some (.int .i64 f1) := (blk_cell h 1).trans rfl
theorem IsS101.set_1 {w0 W : World} {g : Nat} {f0 : List Int} {f1 : Int} {f2 : Int} (h : IsS101 w0 W g f0 f1 f2) (x : Int) : IsS101 w0 (W.setCell ⟨g, 1, none⟩ (.int .i64 x)) g f0 x f2 := by
  obtain ⟨A0, c0, hb, hg, hr0⟩ := h
  exact ⟨A0, c0, by simpa using blk_set hb 1 (.int .i64 x), hg, hr0⟩
theorem cellS101_2 {W : World} {g : Nat} {A0 : Option Addr} {c0 : Nat} {f0 : List Int} {f1 : Int} {f2 : Int} (h : W.heap[g]? = some (.cells #[.slice A0 f0.length c0, .int .i64 f1, .int .i64 f2] 101 (0, 0))) : W.cell? ⟨g, 2, none⟩ = some (.int .i64 f2) := (blk_cell h 2).trans rfl
theorem IsS101.set_2 {w0 W : World} {g : Nat} {f0 : List Int} {f1 : Int} {f2 : Int} (h : IsS101 w0 W g f0 f1 f2) (x : Int) : IsS101 w0 (W.setCell ⟨g, 2, none⟩ (.int .i64 x)) g f0 f1 x := by
  obtain ⟨A0, c0, hb, hg, hr0⟩ := h
  exact ⟨A0, c0, by simpa using blk_set hb 2 (.int .i64 x), hg, hr0⟩
theorem IsS101.new (w0 W : World) (A0 : Option Addr) (c0 : Nat) (f0 : List Int) (f1 : Int) (f2 : Int) (hB : Below w0.heap.size w0 W) (hr0 : Kd.C (Kd.int .u8) w0 A0 f0.length f0) : IsS101 w0 (W.alloc (.cells #[.slice A0 f0.length c0, .int .i64 f1, .int .i64 f2] 101)) W.heap.size f0 f1 f2 := ⟨A0, c0, by simpa using heap_alloc_new W _, hB.size, hr0⟩

/-! ### spec_l1New: function 43 -/
def spec_l1New.l0 : Nat → List Int → Int → Int → Option (List Int × Int × Int)
  | 0, _, _, _ => none
  | k + 1, x0, x3, x4 => if x4 < (x0.length : Int) then (if x4 < 4000 then (if 0 ≤ x4 then (spec_l1New.l0 k x0 (Go.bits .and .i64 (wrap64 ((wrap64 ((wrap64 (x3 * 137)) + (wrap64 (rd x0 x4)))) + 11)) 1073741823) (wrap64 (x4 + 1))) else (none)) else (some (x0, 0, x3))) else (some (x0, 0, x3))
def spec_l1New.f (k : Nat) (l0 : List Int) : Option (List Int × Int × Int) := spec_l1New.l0 k l0 (wrap64 (381381 + (l0.length : Int))) 0
theorem spec_l1New.mono_l : ∀ k, (∀ y0 y1 y2, LeO (spec_l1New.l0 k y0 y1 y2) (spec_l1New.l0 (k + 1) y0 y1 y2))
  | 0 => fun _ _ _ r h => by simp [spec_l1New.l0] at h
  | k + 1 => by
    have ih0 := spec_l1New.mono_l k
    · intro y0 y1 y2
      unfold spec_l1New.l0
      exact me
theorem spec_l1New.mono : ∀ a0 k, LeO (spec_l1New.f k a0) (spec_l1New.f (k + 1) a0) := by
  intro a0 k
  have ih0 := spec_l1New.mono_l k
  unfold spec_l1New.f
  exact me
theorem spec_l1New.calls (k : Nat) (A0 : Option Addr) (c0 : Nat) (l0 : List Int) (r1 : List Int) (r2 : Int) (r3 : Int) (w0 w : World) (hB : Below w0.heap.size w0 w) (hr0 : Kd.C (Kd.int .u8) w0 A0 l0.length l0) (hc0 : l0.length ≤ c0) (h : spec_l1New.f k l0 = some (r1, r2, r3)) :
    Calls Try.prog 43 #[.slice A0 l0.length c0] w fun e w' => ∃ g_ : Nat, e = .returned (.pointer (some ⟨g_, 0, none⟩)) ∧ IsS101 w0 w' g_ r1 r2 r3 ∧ Below w0.heap.size w0 w' ∧ Below w.heap.size w w' := by
 have hu101 := Try.underlying101
 have HR0 := mk0 hr0
 have HC0 := mk0 hc0
 clear hr0 hc0
 have HBW := mk0 (Below.refl w.heap.size w)
 have HW0 := mk0 hB.size
 have HB := mk0 hB
 clear hB
 have H : (spec_l1New.l0 k l0 (wrap64 (381381 + (l0.length : Int))) 0) = some (r1, r2, r3) := h
 clear h
 have H' := mk0 H
 clear H
 go_enter Try.func43, Try.ntmps43
 go_wp2
 go_loopg [3, 4] k (fun kq v3 v4 w' => ∃ (x3_1 : Int) (x4_1 : Int), v3 = .int .i64 x3_1 ∧ v4 = .int .i64 x4_1 ∧ Aside0 (spec_l1New.l0 kq l0 x3_1 x4_1 = some (r1, r2, r3)) ∧ Aside0 (kq ≤ k) ∧ Aside0 (Below w0.heap.size w0 w' ∧ Below w.heap.size w w'))
 case atStart => exact ⟨(wrap64 (381381 + (l0.length : Int))), (0), sv, sv, H', nl, ⟨bw, by repeat (first | (with_reducible first | exact HBW.out | apply below_alloc | apply pw_below_drewN | apply below_drew1) | exact HBW.out)⟩⟩
 case round =>
  clear H'
  obtain ⟨x3_1, x4_1, rfl, rfl, HA, HK1, HB⟩ := hrel
  obtain ⟨HB1_, HB2_⟩ := HB.out
  clear HB HBW
  have HB := mk0 HB1_
  have HBW := mk0 HB2_
  clear HB1_ HB2_
  rcases gk with _ | k1
  · exact absurd HA.out (by simp [spec_l1New.l0])
  have H := HA.out
  clear HA
  simp only [spec_l1New.l0] at H
  replace H := idd H; rcases H with ⟨c2b0, H⟩ | ⟨c2b0, H⟩
  · replace H := idd H; rcases H with ⟨c3b0, H⟩ | ⟨c3b0, H⟩
    · replace H := gd H; obtain ⟨c4b0, H⟩ := H
      have H' := mk0 H
      clear H
      have p357 : 0 ≤ (x4_1 : Int) := oa
      have q357 : x4_1 < (l0.length : Int) := oa
      obtain ⟨ad357, e357, hx357_0⟩ := Kd.at_int HR0.out x4_1 p357 q357
      cases e357
      replace hx357_0 := pw_cell_below HB.out hx357_0
      replace p357 := eq_true p357
      replace q357 := eq_true q357
      go_wp2
      go_roundg k1
      case measure => have := HK1.out; omega
      case rel => exact ⟨(Go.bits .and .i64 (wrap64 ((wrap64 ((wrap64 (x3_1 * 137)) + (wrap64 (rd l0 x4_1)))) + 11)) 1073741823), (wrap64 (x4_1 + 1)), sv, sv, H', hk1, ⟨bw, by repeat (first | (with_reducible first | exact HBW.out | apply below_alloc | apply pw_below_drewN | apply below_drew1) | exact HBW.out)⟩⟩
    · simp only [Option.some.injEq, Prod.mk.injEq] at H
      obtain ⟨rfl, rfl, rfl⟩ := H
      go_wp2_with (first | ((with_reducible refine gD 31 rfl ?_); refine bx0 31 #[.slice A0 l0.length c0, .int .i64 0, .int .i64 x3_1] 101 ?_; intro gb358 hg w5 hbox hb; replace HB := mk0 (below_step bw hb); have BK358 := mk0 (hbox); have GW358 := mk0 ((by rw [hg]; exact (below_size (by repeat (first | (with_reducible first | exact HBW.out | apply below_alloc | apply pw_below_drewN | apply below_drew1) | exact HBW.out))) : w.heap.size ≤ gb358)); have GE358 := mk0 ((Nat.le_trans HW0.out (by rw [hg]; exact (below_size (by repeat (first | (with_reducible first | exact HBW.out | apply below_alloc | apply pw_below_drewN | apply below_drew1) | exact HBW.out))) : w.heap.size ≤ gb358) : w0.heap.size ≤ gb358)); replace HBW := mk0 (below_step HBW.out hb); clear hb hbox hg))
      go_ret
      exact ⟨_, rfl, (show IsS101 w0 _ gb358 l0 0 x3_1 from ⟨_, _, kb BK358.out, GE358.out, HR0.out⟩), (bg GE358), by repeat (first | (with_reducible first | exact HBW.out | apply below_alloc | apply pw_below_drewN | apply below_drew1 | refine below_set ?_ GW358.out) | exact HBW.out)⟩
  · simp only [Option.some.injEq, Prod.mk.injEq] at H
    obtain ⟨rfl, rfl, rfl⟩ := H
    go_wp2_with (first | ((with_reducible refine gD 31 rfl ?_); refine bx0 31 #[.slice A0 l0.length c0, .int .i64 0, .int .i64 x3_1] 101 ?_; intro gb359 hg w6 hbox hb; replace HB := mk0 (below_step bw hb); have BK359 := mk0 (hbox); have GW359 := mk0 ((by rw [hg]; exact (below_size (by repeat (first | (with_reducible first | exact HBW.out | apply below_alloc | apply pw_below_drewN | apply below_drew1) | exact HBW.out))) : w.heap.size ≤ gb359)); have GE359 := mk0 ((Nat.le_trans HW0.out (by rw [hg]; exact (below_size (by repeat (first | (with_reducible first | exact HBW.out | apply below_alloc | apply pw_below_drewN | apply below_drew1) | exact HBW.out))) : w.heap.size ≤ gb359) : w0.heap.size ≤ gb359)); replace HBW := mk0 (below_step HBW.out hb); clear hb hbox hg))
    go_ret
    exact ⟨_, rfl, (show IsS101 w0 _ gb359 l0 0 x3_1 from ⟨_, _, kb BK359.out, GE359.out, HR0.out⟩), (bg GE359), by repeat (first | (with_reducible first | exact HBW.out | apply below_alloc | apply pw_below_drewN | apply below_drew1 | refine below_set ?_ GW359.out) | exact HBW.out)⟩
/-! ### spec_l1Byte: function 93 -/
def spec_l1Byte.f (s0_0 : List Int) (s0_1 : Int) (s0_2 : Int) : Option (Int × Int × Int) := if s0_1 < (s0_0.length : Int) then (if 0 ≤ s0_1 then (some (Go.bits .and .i64 (wrap64 ((Go.bits .and .i64 (Go.bits .xor .i64 ((wrap64 ((wrap64 (s0_2 * 6364136223846793005)) + 1442695040888963407)) / 8589934592) ((wrap64 ((wrap64 (s0_2 * 6364136223846793005)) + 1442695040888963407)) / 140737488355328)) 255) + (wrap64 (rd s0_0 s0_1)))) 255, wrap64 (s0_1 + 1), wrap64 ((wrap64 (s0_2 * 6364136223846793005)) + 1442695040888963407))) else (none)) else (some (Go.bits .and .i64 (Go.bits .xor .i64 ((wrap64 ((wrap64 (s0_2 * 6364136223846793005)) + 1442695040888963407)) / 8589934592) ((wrap64 ((wrap64 (s0_2 * 6364136223846793005)) + 1442695040888963407)) / 140737488355328)) 255, s0_1, wrap64 ((wrap64 (s0_2 * 6364136223846793005)) + 1442695040888963407)))
theorem spec_l1Byte.calls (g : Nat) (s0_0 : List Int) (s0_1 : Int) (s0_2 : Int) (r1 : Int) (r2 : Int) (r3 : Int) (w0 w : World) (hI : IsS101 w0 w g s0_0 s0_1 s0_2) (hB : Below w0.heap.size w0 w) (h : spec_l1Byte.f s0_0 s0_1 s0_2 = some (r1, r2, r3)) :
    Calls Try.prog 93 #[.pointer (some ⟨g, 0, none⟩)] w fun e w' => e = .returned (.int .i64 r1) ∧ IsS101 w0 w' g s0_0 r2 r3 ∧ Below w0.heap.size w0 w' ∧ KeepBut w w' g none := by
 have HI0 := mk0 hI
 have HK := mk0 (KeepBut.refl w g none)
 have HL := mk0 hB.size
 clear hI
 have HW0 := mk0 hB.size
 have HB := mk0 hB
 clear hB
 have H : (if s0_1 < (s0_0.length : Int) then (if 0 ≤ s0_1 then (some (Go.bits .and .i64 (wrap64 ((Go.bits .and .i64 (Go.bits .xor .i64 ((wrap64 ((wrap64 (s0_2 * 6364136223846793005)) + 1442695040888963407)) / 8589934592) ((wrap64 ((wrap64 (s0_2 * 6364136223846793005)) + 1442695040888963407)) / 140737488355328)) 255) + (wrap64 (rd s0_0 s0_1)))) 255, wrap64 (s0_1 + 1), wrap64 ((wrap64 (s0_2 * 6364136223846793005)) + 1442695040888963407))) else (none)) else (some (Go.bits .and .i64 (Go.bits .xor .i64 ((wrap64 ((wrap64 (s0_2 * 6364136223846793005)) + 1442695040888963407)) / 8589934592) ((wrap64 ((wrap64 (s0_2 * 6364136223846793005)) + 1442695040888963407)) / 140737488355328)) 255, s0_1, wrap64 ((wrap64 (s0_2 * 6364136223846793005)) + 1442695040888963407)))) = some (r1, r2, r3) := h
 clear h
 replace H := idd H; rcases H with ⟨c2b0, H⟩ | ⟨c2b0, H⟩
 · replace H := gd H; obtain ⟨c3b0, H⟩ := H
   simp only [Option.some.injEq, Prod.mk.injEq] at H
   obtain ⟨rfl, rfl, rfl⟩ := H
   obtain ⟨ASz4_0, cSz4_0, HGz4, hgz4, HSz4_0⟩ := HI0.out
   have hcz4_0 := cellS101_0 HGz4
   have hcz4_1 := cellS101_1 HGz4
   have hcz4_2 := cellS101_2 HGz4
   have hfz4_1 := blk_frozen HGz4 1
   have hfz4_2 := blk_frozen HGz4 2
   clear HGz4 hgz4
   have p365 : 0 ≤ (s0_1 : Int) := oa
   have q365 : s0_1 < (s0_0.length : Int) := oa
   obtain ⟨ad365, e365, hx365_0⟩ := Kd.at_int HSz4_0 s0_1 p365 q365
   cases e365
   have hn365_0 : ad365.block ≠ g := Nat.ne_of_lt (Nat.lt_of_lt_of_le (by have := World.block_lt_of_cell? _ _ hx365_0; first | rwa [add_block] at this | exact this) (IsS101.ge HI0.out))
   replace hx365_0 := pw_cell_below HB.out hx365_0
   replace hx365_0 := (cell_far (p := ⟨g, 2, none⟩) (by first | (rw [add_block]; exact hn365_0) | (show (Addr.add _ _).block ≠ _; rw [add_block]; exact hn365_0) | exact hn365_0) (.int .i64 (wrap64 ((wrap64 (s0_2 * 6364136223846793005)) + 1442695040888963407)))).trans hx365_0
   (try have hy365_0 := fun (n_ : Nat) => (show (((w.drewN n_).setCell ⟨g, 2, none⟩ (.int .i64 (wrap64 ((wrap64 (s0_2 * 6364136223846793005)) + 1442695040888963407))))).cell? _ = some _ from hx365_0))
   clear hn365_0
   replace p365 := eq_true p365
   replace q365 := eq_true q365
   go_enter Try.func93, Try.ntmps93
   go_wp2
   repeat (go_quiet (fail); try go_wp2)
   go_ret
   exact ⟨sw, by repeat (first | (with_reducible first | exact HI0.out | apply IsS101.alloc | apply IsS101.drewN | apply IsS101.drew | apply IsS101.set_1 | apply IsS101.set_2) | exact HI0.out), by repeat (first | (with_reducible first | exact HB.out | apply below_alloc | apply pw_below_drewN | apply below_drew1 | refine below_set ?_ (IsS101.ge HI0.out)) | exact HB.out), kk⟩
 · simp only [Option.some.injEq, Prod.mk.injEq] at H
   obtain ⟨rfl, rfl, rfl⟩ := H
   obtain ⟨ASz5_0, cSz5_0, HGz5, hgz5, HSz5_0⟩ := HI0.out
   have hcz5_0 := cellS101_0 HGz5
   have hcz5_1 := cellS101_1 HGz5
   have hcz5_2 := cellS101_2 HGz5
   have hfz5_1 := blk_frozen HGz5 1
   have hfz5_2 := blk_frozen HGz5 2
   clear HGz5 hgz5
   go_enter Try.func93, Try.ntmps93
   go_wp2
   repeat (go_quiet (fail); try go_wp2)
   go_ret
   exact ⟨sw, by repeat (first | (with_reducible first | exact HI0.out | apply IsS101.alloc | apply IsS101.drewN | apply IsS101.drew | apply IsS101.set_1 | apply IsS101.set_2) | exact HI0.out), by repeat (first | (with_reducible first | exact HB.out | apply below_alloc | apply pw_below_drewN | apply below_drew1 | refine below_set ?_ (IsS101.ge HI0.out)) | exact HB.out), kk⟩
/-! ### spec_l1Below: function 71 -/
def spec_l1Below.f (s0_0 : List Int) (s0_1 : Int) (s0_2 : Int) (a1 : Int) : Option (Int × Int × Int) := if a1 ≤ 0 then (some (0, s0_1, s0_2)) else (if a1 ≤ 256 then ((spec_l1Byte.f s0_0 s0_1 s0_2).bind fun bt366 => (if a1 = 0 then (none) else (some (Int.tmod bt366.1 a1, bt366.2.1, bt366.2.2)))) else ((spec_l1Byte.f s0_0 s0_1 s0_2).bind fun bt369 => ((spec_l1Byte.f s0_0 bt369.2.1 bt369.2.2).bind fun bt372 => ((spec_l1Byte.f s0_0 bt372.2.1 bt372.2.2).bind fun bt375 => (if a1 = 0 then (none) else (some (Int.tmod (wrap64 ((wrap64 ((wrap64 (bt369.1 * 65536)) + (wrap64 (bt372.1 * 256)))) + bt375.1)) a1, bt375.2.1, bt375.2.2)))))))
theorem spec_l1Below.calls (g : Nat) (s0_0 : List Int) (s0_1 : Int) (s0_2 : Int) (a1 : Int) (r1 : Int) (r2 : Int) (r3 : Int) (w0 w : World) (hI : IsS101 w0 w g s0_0 s0_1 s0_2) (hB : Below w0.heap.size w0 w) (h : spec_l1Below.f s0_0 s0_1 s0_2 a1 = some (r1, r2, r3)) :
    Calls Try.prog 71 #[.pointer (some ⟨g, 0, none⟩), .int .i64 a1] w fun e w' => e = .returned (.int .i64 r1) ∧ IsS101 w0 w' g s0_0 r2 r3 ∧ Below w0.heap.size w0 w' ∧ KeepBut w w' g none := by
 have HI0 := mk0 hI
 have HK := mk0 (KeepBut.refl w g none)
 have HL := mk0 hB.size
 clear hI
 have HW0 := mk0 hB.size
 have HB := mk0 hB
 clear hB
 have H : (if a1 ≤ 0 then (some (0, s0_1, s0_2)) else (if a1 ≤ 256 then ((spec_l1Byte.f s0_0 s0_1 s0_2).bind fun bt366 => (if a1 = 0 then (none) else (some (Int.tmod bt366.1 a1, bt366.2.1, bt366.2.2)))) else ((spec_l1Byte.f s0_0 s0_1 s0_2).bind fun bt369 => ((spec_l1Byte.f s0_0 bt369.2.1 bt369.2.2).bind fun bt372 => ((spec_l1Byte.f s0_0 bt372.2.1 bt372.2.2).bind fun bt375 => (if a1 = 0 then (none) else (some (Int.tmod (wrap64 ((wrap64 ((wrap64 (bt369.1 * 65536)) + (wrap64 (bt372.1 * 256)))) + bt375.1)) a1, bt375.2.1, bt375.2.2)))))))) = some (r1, r2, r3) := h
 clear h
 replace H := idd H; rcases H with ⟨c3b0, H⟩ | ⟨c3b0, H⟩
 · simp only [Option.some.injEq, Prod.mk.injEq] at H
   obtain ⟨rfl, rfl, rfl⟩ := H
   go_enter Try.func71, Try.ntmps71
   go_wp2
   go_ret
   exact ⟨sw, by repeat (first | (with_reducible first | exact HI0.out | apply IsS101.alloc | apply IsS101.drewN | apply IsS101.drew | apply IsS101.set_1 | apply IsS101.set_2) | exact HI0.out), by repeat (first | (with_reducible first | exact HB.out | apply below_alloc | apply pw_below_drewN | apply below_drew1 | refine below_set ?_ (IsS101.ge HI0.out)) | exact HB.out), kk⟩
 · replace H := idd H; rcases H with ⟨c4b0, H⟩ | ⟨c4b0, H⟩
   · replace H := bd H; obtain ⟨⟨t366, t367, t368⟩, A5, H⟩ := H
     (try dsimp only at H)
     replace H := ip H; rcases H with ⟨c6, H⟩ | ⟨c6, H⟩
     · exact absurd H (by simp)
     · have c6b0 : (a1 == 0) = false := beq_eq_false_iff_ne.mpr c6
       have c6b1 : (a1 != 0) = true := bne_iff_ne.mpr c6
       simp only [Option.some.injEq, Prod.mk.injEq] at H
       obtain ⟨rfl, rfl, rfl⟩ := H
       go_enter Try.func71, Try.ntmps71
       go_wp2_with (first | ((with_reducible refine gC 93 (some 13) rfl rfl ?_); refine gG (some 13) Try.func93 #[.pointer (some ⟨g, 0, none⟩)] ?_; refine (spec_l1Byte.calls g s0_0 s0_1 s0_2 t366 t367 t368 w0 _ ?side1 ?side2 A5.out).mono ?_; (case side1 => repeat (first | (with_reducible first | exact HI0.out | apply IsS101.alloc | apply IsS101.drewN | apply IsS101.drew | apply IsS101.set_1 | apply IsS101.set_2) | exact HI0.out)); (case side2 => repeat (first | (with_reducible first | exact HB.out | apply below_alloc | apply pw_below_drewN | apply below_drew1 | refine below_set ?_ (IsS101.ge HI0.out)) | exact HB.out)); rintro e w7 ⟨rfl, hi, hb, hk⟩; refine ⟨_, rfl, ?_⟩; replace HK := mk0 (KeepBut.trans kk hk (.inl rfl)); replace HB := mk0 (hb); replace HI0 := mk0 (hi); clear hb hk hi))
       go_ret
       exact ⟨sw, by repeat (first | (with_reducible first | exact HI0.out | apply IsS101.alloc | apply IsS101.drewN | apply IsS101.drew | apply IsS101.set_1 | apply IsS101.set_2) | exact HI0.out), by repeat (first | (with_reducible first | exact HB.out | apply below_alloc | apply pw_below_drewN | apply below_drew1 | refine below_set ?_ (IsS101.ge HI0.out)) | exact HB.out), kk⟩
   · replace H := bd H; obtain ⟨⟨t369, t370, t371⟩, A8, H⟩ := H
     (try dsimp only at H)
     replace H := bd H; obtain ⟨⟨t372, t373, t374⟩, A9, H⟩ := H
     (try dsimp only at H)
     replace H := bd H; obtain ⟨⟨t375, t376, t377⟩, A10, H⟩ := H
     (try dsimp only at H)
     replace H := ip H; rcases H with ⟨c11, H⟩ | ⟨c11, H⟩
     · exact absurd H (by simp)
     · have c11b0 : (a1 == 0) = false := beq_eq_false_iff_ne.mpr c11
       have c11b1 : (a1 != 0) = true := bne_iff_ne.mpr c11
       simp only [Option.some.injEq, Prod.mk.injEq] at H
       obtain ⟨rfl, rfl, rfl⟩ := H
       go_enter Try.func71, Try.ntmps71
       go_wp2_with (first | ((with_reducible refine gC 93 (some 17) rfl rfl ?_); refine gG (some 17) Try.func93 #[.pointer (some ⟨g, 0, none⟩)] ?_; refine (spec_l1Byte.calls g s0_0 s0_1 s0_2 t369 t370 t371 w0 _ ?side1 ?side2 A8.out).mono ?_; (case side1 => repeat (first | (with_reducible first | exact HI0.out | apply IsS101.alloc | apply IsS101.drewN | apply IsS101.drew | apply IsS101.set_1 | apply IsS101.set_2) | exact HI0.out)); (case side2 => repeat (first | (with_reducible first | exact HB.out | apply below_alloc | apply pw_below_drewN | apply below_drew1 | refine below_set ?_ (IsS101.ge HI0.out)) | exact HB.out)); rintro e w12 ⟨rfl, hi, hb, hk⟩; refine ⟨_, rfl, ?_⟩; replace HK := mk0 (KeepBut.trans kk hk (.inl rfl)); replace HB := mk0 (hb); replace HI0 := mk0 (hi); clear hb hk hi) | ((with_reducible refine gC 93 (some 19) rfl rfl ?_); refine gG (some 19) Try.func93 #[.pointer (some ⟨g, 0, none⟩)] ?_; refine (spec_l1Byte.calls g s0_0 t370 t371 t372 t373 t374 w0 _ ?side1 ?side2 A9.out).mono ?_; (case side1 => repeat (first | (with_reducible first | exact HI0.out | apply IsS101.alloc | apply IsS101.drewN | apply IsS101.drew | apply IsS101.set_1 | apply IsS101.set_2) | exact HI0.out)); (case side2 => repeat (first | (with_reducible first | exact HB.out | apply below_alloc | apply pw_below_drewN | apply below_drew1 | refine below_set ?_ (IsS101.ge HI0.out)) | exact HB.out)); rintro e w13 ⟨rfl, hi, hb, hk⟩; refine ⟨_, rfl, ?_⟩; replace HK := mk0 (KeepBut.trans kk hk (.inl rfl)); replace HB := mk0 (hb); replace HI0 := mk0 (hi); clear hb hk hi) | ((with_reducible refine gC 93 (some 21) rfl rfl ?_); refine gG (some 21) Try.func93 #[.pointer (some ⟨g, 0, none⟩)] ?_; refine (spec_l1Byte.calls g s0_0 t373 t374 t375 t376 t377 w0 _ ?side1 ?side2 A10.out).mono ?_; (case side1 => repeat (first | (with_reducible first | exact HI0.out | apply IsS101.alloc | apply IsS101.drewN | apply IsS101.drew | apply IsS101.set_1 | apply IsS101.set_2) | exact HI0.out)); (case side2 => repeat (first | (with_reducible first | exact HB.out | apply below_alloc | apply pw_below_drewN | apply below_drew1 | refine below_set ?_ (IsS101.ge HI0.out)) | exact HB.out)); rintro e w14 ⟨rfl, hi, hb, hk⟩; refine ⟨_, rfl, ?_⟩; replace HK := mk0 (KeepBut.trans kk hk (.inl rfl)); replace HB := mk0 (hb); replace HI0 := mk0 (hi); clear hb hk hi))
       go_ret
       exact ⟨sw, by repeat (first | (with_reducible first | exact HI0.out | apply IsS101.alloc | apply IsS101.drewN | apply IsS101.drew | apply IsS101.set_1 | apply IsS101.set_2) | exact HI0.out), by repeat (first | (with_reducible first | exact HB.out | apply below_alloc | apply pw_below_drewN | apply below_drew1 | refine below_set ?_ (IsS101.ge HI0.out)) | exact HB.out), kk⟩
/-! ### spec_l1Int: function 94 -/
def spec_l1Int.f (s0_0 : List Int) (s0_1 : Int) (s0_2 : Int) (l1 : List Int) : Option (Int × Int × Int) := (spec_l1Below.f s0_0 s0_1 s0_2 (l1.length : Int)).bind fun bt378 => (if 0 ≤ bt378.1 then (if bt378.1 < (l1.length : Int) then (some (rd l1 bt378.1, bt378.2.1, bt378.2.2)) else (none)) else (none))
theorem spec_l1Int.calls (g : Nat) (s0_0 : List Int) (s0_1 : Int) (s0_2 : Int) (A1 : Option Addr) (c1 : Nat) (l1 : List Int) (r1 : Int) (r2 : Int) (r3 : Int) (w0 w : World) (hI : IsS101 w0 w g s0_0 s0_1 s0_2) (hB : Below w0.heap.size w0 w) (hr1 : Kd.C (Kd.int .i64) w A1 l1.length l1) (hc1 : l1.length ≤ c1) (hf1 : ∀ ad, A1 = some ad → 0 < l1.length → ad.block ≠ g) (h : spec_l1Int.f s0_0 s0_1 s0_2 l1 = some (r1, r2, r3)) :
    Calls Try.prog 94 #[.pointer (some ⟨g, 0, none⟩), .slice A1 l1.length c1] w fun e w' => e = .returned (.int .i64 r1) ∧ IsS101 w0 w' g s0_0 r2 r3 ∧ Below w0.heap.size w0 w' ∧ KeepBut w w' g none := by
 have HR1 := mk0 hr1
 have HC1 := mk0 hc1
 clear hr1 hc1
 have HI0 := mk0 hI
 have HK := mk0 (KeepBut.refl w g none)
 have HL := mk0 hB.size
 clear hI
 have HW0 := mk0 hB.size
 have HB := mk0 hB
 clear hB
 have H : ((spec_l1Below.f s0_0 s0_1 s0_2 (l1.length : Int)).bind fun bt378 => (if 0 ≤ bt378.1 then (if bt378.1 < (l1.length : Int) then (some (rd l1 bt378.1, bt378.2.1, bt378.2.2)) else (none)) else (none))) = some (r1, r2, r3) := h
 clear h
 replace H := bd H; obtain ⟨⟨t378, t379, t380⟩, A3, H⟩ := H
 (try dsimp only at H)
 replace H := gd H; obtain ⟨c4b0, H⟩ := H
 replace H := gd H; obtain ⟨c5b0, H⟩ := H
 simp only [Option.some.injEq, Prod.mk.injEq] at H
 obtain ⟨rfl, rfl, rfl⟩ := H
 go_enter Try.func94, Try.ntmps94
 go_wp2_with (first | ((with_reducible refine gC 71 (some 9) rfl rfl ?_); refine gG (some 9) Try.func71 #[.pointer (some ⟨g, 0, none⟩), .int .i64 (l1.length : Int)] ?_; refine (spec_l1Below.calls g s0_0 s0_1 s0_2 (l1.length : Int) t378 t379 t380 w0 _ ?side1 ?side2 A3.out).mono ?_; (case side1 => repeat (first | (with_reducible first | exact HI0.out | apply IsS101.alloc | apply IsS101.drewN | apply IsS101.drew | apply IsS101.set_1 | apply IsS101.set_2) | exact HI0.out)); (case side2 => repeat (first | (with_reducible first | exact HB.out | apply below_alloc | apply pw_below_drewN | apply below_drew1 | refine below_set ?_ (IsS101.ge HI0.out)) | exact HB.out)); rintro e w6 ⟨rfl, hi, hb, hk⟩; refine ⟨_, rfl, ?_⟩; replace HK := mk0 (KeepBut.trans kk hk (.inl rfl)); replace HB := mk0 (hb); replace HI0 := mk0 (hi); clear hb hk hi; have p381 : 0 ≤ (t378 : Int) := oa; have q381 : t378 < (l1.length : Int) := oa; obtain ⟨ad381, e381, hx381_0⟩ := Kd.at_int HR1.out t378 p381 q381; cases e381; replace hx381_0 := keep_cell HK.out hx381_0 (by first | (rw [add_block]; exact hf1 _ rfl (by omega)) | exact hf1 _ rfl (by omega) | exact hf1 ad381 rfl (by omega)); replace p381 := eq_true p381; replace q381 := eq_true q381))
 go_ret
 exact ⟨sw, by repeat (first | (with_reducible first | exact HI0.out | apply IsS101.alloc | apply IsS101.drewN | apply IsS101.drew | apply IsS101.set_1 | apply IsS101.set_2) | exact HI0.out), by repeat (first | (with_reducible first | exact HB.out | apply below_alloc | apply pw_below_drewN | apply below_drew1 | refine below_set ?_ (IsS101.ge HI0.out)) | exact HB.out), kk⟩
/-! ### spec_l1Bytes: function 114 -/
def spec_l1Bytes.l0 : Nat → Int → List Int → Int → List Int → Int → Int → Option (List Int × Int × Int)
  | 0, _, _, _, _, _, _ => none
  | k + 1, x1, x5, x6, x1000, x1001, x1002 => if x6 < x1 then ((spec_l1Byte.f x1000 x1001 x1002).bind fun bt385 => (if x5.length < 140737488355328 then (spec_l1Bytes.l0 k x1 (x5 ++ [(bt385.1) % 256]) (wrap64 (x6 + 1)) x1000 bt385.2.1 bt385.2.2) else (none))) else (some (x5, x1001, x1002))
def spec_l1Bytes.f (k : Nat) (s0_0 : List Int) (s0_1 : Int) (s0_2 : Int) (a1 : Int) : Option (List Int × Int × Int) := spec_l1Bytes.l0 k a1 (([] : List Int)) 0 s0_0 s0_1 s0_2
theorem spec_l1Bytes.mono_l : ∀ k, (∀ y0 y1 y2 y3 y4 y5, LeO (spec_l1Bytes.l0 k y0 y1 y2 y3 y4 y5) (spec_l1Bytes.l0 (k + 1) y0 y1 y2 y3 y4 y5))
  | 0 => fun _ _ _ _ _ _ r h => by simp [spec_l1Bytes.l0] at h
  | k + 1 => by
    have ih0 := spec_l1Bytes.mono_l k
    · intro y0 y1 y2 y3 y4 y5
      unfold spec_l1Bytes.l0
      exact me
theorem spec_l1Bytes.mono : ∀ a0 a1 a2 a3 k, LeO (spec_l1Bytes.f k a0 a1 a2 a3) (spec_l1Bytes.f (k + 1) a0 a1 a2 a3) := by
  intro a0 a1 a2 a3 k
  have ih0 := spec_l1Bytes.mono_l k
  unfold spec_l1Bytes.f
  exact me
theorem spec_l1Bytes.calls (k : Nat) (g : Nat) (s0_0 : List Int) (s0_1 : Int) (s0_2 : Int) (a1 : Int) (r1 : List Int) (r2 : Int) (r3 : Int) (w0 w : World) (hI : IsS101 w0 w g s0_0 s0_1 s0_2) (hB : Below w0.heap.size w0 w) (h : spec_l1Bytes.f k s0_0 s0_1 s0_2 a1 = some (r1, r2, r3)) :
    Calls Try.prog 114 #[.pointer (some ⟨g, 0, none⟩), .int .i64 a1] w fun e w' => ∃ v0_ : Value, e = .returned (v0_) ∧ Kd.R (Kd.int .u8) 5 w' w.heap.size (fun _ => True) v0_ r1 ∧ IsS101 w0 w' g s0_0 r2 r3 ∧ Below w0.heap.size w0 w' ∧ KeepBut w w' g none := by
 have HI0 := mk0 hI
 have HK := mk0 (KeepBut.refl w g none)
 have HL := mk0 hB.size
 clear hI
 have HW0 := mk0 hB.size
 have HB := mk0 hB
 clear hB
 have H : (spec_l1Bytes.l0 k a1 (([] : List Int)) 0 s0_0 s0_1 s0_2) = some (r1, r2, r3) := h
 clear h
 obtain ⟨y382, hy382⟩ : ∃ y_ : List Int, y_ = (([] : List Int)) := ⟨_, rfl⟩
 replace H : (spec_l1Bytes.l0 k a1 y382 0 s0_0 s0_1 s0_2) = some (r1, r2, r3) := by first | (rw [hy382]; with_reducible exact H) | (have H2_ := (Option.bind_some _ _).symm.trans H; rw [hy382]; with_reducible exact H2_) | (have H2_ := (Option.bind_some _ _).symm.trans H; with_reducible exact H2_) | with_reducible exact H | (rw [hy382]; exact H) | exact H
 have Ny382 := mk0 hy382
 clear hy382
 have H' := mk0 H
 clear H
 go_enter Try.func114, Try.ntmps114
 go_wp2_with (first | ((with_reducible refine gD 7 rfl ?_); refine lt (Kd.int .u8) 5 7 ([] : List Int) [] ?_; intro v383 w3 ho4 hb hg_ hnew_; clear hg_ hnew_; (first | rw [← Ny382.out] at ho4 | (simp only [Int.reduceToNat] at ho4; rw [← Ny382.out] at ho4)); have HO384 := mk0 (Kd.R_lower ho4 (keep_size (w := w) (g := g) (row := none) kk)); replace HK := mk0 (KeepBut.trans kk (KeepBut.of_below hb g none) (.inl rfl)); replace HB := mk0 (below_step (by repeat (first | (with_reducible first | exact HB.out | apply below_alloc | apply pw_below_drewN | apply below_drew1 | refine below_set ?_ (IsS101.ge HI0.out)) | exact HB.out)) hb); replace HI0 := mk0 (IsS101.below (by repeat (first | (with_reducible first | exact HI0.out | apply IsS101.alloc | apply IsS101.drewN | apply IsS101.drew | apply IsS101.set_1 | apply IsS101.set_2) | exact HI0.out)) hb); clear hb ho4))
 go_loopg [5, 6] k (fun kq v5 v6 w' => ∃ (x5_1 : List Int) (x6_1 : Int) (x1001_1 : Int) (x1002_1 : Int), v6 = .int .i64 x6_1 ∧ Aside0 (spec_l1Bytes.l0 kq a1 x5_1 x6_1 s0_0 x1001_1 x1002_1 = some (r1, r2, r3)) ∧ Aside0 (kq ≤ k) ∧ Aside0 (Kd.R (Kd.int .u8) 5 w' w.heap.size (fun _ => True) v5 x5_1) ∧ Aside0 (IsS101 w0 w' g s0_0 x1001_1 x1002_1) ∧ Aside0 (KeepBut w w' g none) ∧ Aside0 (Below w0.heap.size w0 w'))
 case atStart => exact ⟨(y382), (0), (s0_1), (s0_2), sv, H', nl, ⟨rr HO384.out⟩, ⟨by repeat (first | (with_reducible first | exact HI0.out | apply IsS101.alloc | apply IsS101.drewN | apply IsS101.drew | apply IsS101.set_1 | apply IsS101.set_2) | exact HI0.out)⟩, ⟨kk⟩, ⟨by repeat (first | (with_reducible first | exact HB.out | apply below_alloc | apply pw_below_drewN | apply below_drew1 | refine below_set ?_ (IsS101.ge HI0.out)) | exact HB.out)⟩⟩
 case round =>
  clear H'
  obtain ⟨x5_1, x6_1, x1001_1, x1002_1, rfl, HA, HK1, HO_5, HI0, HK, HB⟩ := hrel
  rcases gk with _ | k1
  · exact absurd HA.out (by simp [spec_l1Bytes.l0])
  have H := HA.out
  clear HA
  simp only [spec_l1Bytes.l0] at H
  replace H := idd H; rcases H with ⟨c5b0, H⟩ | ⟨c5b0, H⟩
  · replace H := bd H; obtain ⟨⟨t385, t386, t387⟩, A6, H⟩ := H
    (try dsimp only at H)
    replace H := gl H; obtain ⟨LMc7, H⟩ := H
    obtain ⟨y388, Ny388⟩ := nm (x5_1 ++ [(t385) % 256])
    rw [← Ny388.out] at H
    have H' := mk0 H
    clear H
    go_wp2_with (first | ((with_reducible refine gC 93 (some 15) rfl rfl ?_); refine gG (some 15) Try.func93 #[.pointer (some ⟨g, 0, none⟩)] ?_; refine (spec_l1Byte.calls g s0_0 x1001_1 x1002_1 t385 t386 t387 w0 _ ?side1 ?side2 A6.out).mono ?_; (case side1 => repeat (first | (with_reducible first | exact HI0.out | apply IsS101.alloc | apply IsS101.drewN | apply IsS101.drew | apply IsS101.set_1 | apply IsS101.set_2) | exact HI0.out)); (case side2 => repeat (first | (with_reducible first | exact HB.out | apply below_alloc | apply pw_below_drewN | apply below_drew1 | refine below_set ?_ (IsS101.ge HI0.out)) | exact HB.out)); rintro e w8 ⟨rfl, hi, hb, hk⟩; refine ⟨_, rfl, ?_⟩; replace HO_5 := mk0 (Kd.R_mono (Kd.R_keep (IsS101.apart (show IsS101 w0 _ g s0_0 x1001_1 x1002_1 from by repeat (first | (with_reducible first | exact HI0.out | apply IsS101.alloc | apply IsS101.drewN | apply IsS101.drew | apply IsS101.set_1 | apply IsS101.set_2) | exact HI0.out)) (rr HO_5.out) (by decide)) hk (fun _ h => h.2)) (fun _ h => h.1)); replace HK := mk0 (KeepBut.trans kk hk (.inl rfl)); replace HB := mk0 (hb); replace HI0 := mk0 (hi); clear hb hk hi) | ((with_reducible refine gate_builtin (b := .append) (xs := #[.tmp 13, .tmp 17]) rfl ?_); at_builtin; refine Kd.R_append (Kd.int .u8) w.heap.size rfl (.tmp 13) (.tmp 17) 36 5 (.int .u8 0) 1 rfl Try.underlying36 info5 rfl (by decide) (by omega) u5 x5_1 ((t385) % 256) [.int .u8 ((t385) % 256)] (fun _ => True) (fun _ => False) rfl rfl ?aP (fun _ hk => hk.elim) ?aF ?aO (Below.refl _ _) ?aS ?aL ?_; (case aP => exact rfl); (case aF => exact (fun _ _ => trivial)); (case aO => exact (rr HO_5.out)); (case aS => exact (keep_size (w := w) (g := g) (row := none) kk)); (case aL => have := LMc7.out; omega); intro v389 w9 ho hb hg hat; rw [← Ny388.out] at ho; replace HB := mk0 (below_weaken (by repeat (first | (with_reducible first | exact HB.out | apply below_alloc | apply pw_below_drewN | apply below_drew1 | refine below_set ?_ (IsS101.ge HI0.out)) | exact HB.out)) HL.out hb); replace HI0 := mk0 (IsS101.grown (by repeat (first | (with_reducible first | exact HI0.out | apply IsS101.alloc | apply IsS101.drewN | apply IsS101.drew | apply IsS101.set_1 | apply IsS101.set_2) | exact HI0.out)) hg (IsS101.own_ne HI0.out HO_5.out (by decide))); replace HK := mk0 (KeepBut.trans kk (KeepBut.of_grown hg g) (Kd.R_base2 HO_5.out)); have HO390 := mk0 (ho); clear HO_5; clear ho hb hg hat))
    go_roundg k1
    case measure => have := HK1.out; omega
    case rel => exact ⟨(y388), (wrap64 (x6_1 + 1)), (t386), (t387), sv, H', hk1, ⟨rr HO390.out⟩, ⟨by repeat (first | (with_reducible first | exact HI0.out | apply IsS101.alloc | apply IsS101.drewN | apply IsS101.drew | apply IsS101.set_1 | apply IsS101.set_2) | exact HI0.out)⟩, ⟨kk⟩, ⟨by repeat (first | (with_reducible first | exact HB.out | apply below_alloc | apply pw_below_drewN | apply below_drew1 | refine below_set ?_ (IsS101.ge HI0.out)) | exact HB.out)⟩⟩
  · simp only [Option.some.injEq, Prod.mk.injEq] at H
    obtain ⟨rfl, rfl, rfl⟩ := H
    go_wp2
    go_ret
    exact ⟨_, sw, rr HO_5.out, by repeat (first | (with_reducible first | exact HI0.out | apply IsS101.alloc | apply IsS101.drewN | apply IsS101.drew | apply IsS101.set_1 | apply IsS101.set_2) | exact HI0.out), by repeat (first | (with_reducible first | exact HB.out | apply below_alloc | apply pw_below_drewN | apply below_drew1 | refine below_set ?_ (IsS101.ge HI0.out)) | exact HB.out), kk⟩
/-! ### spec_l1Some: function 106 -/
def spec_l1Some.f (k : Nat) (s0_0 : List Int) (s0_1 : Int) (s0_2 : Int) : Option (List Int × Int × Int) := (spec_l1Int.f s0_0 s0_1 s0_2 (([0, 1, 2, 5, 9] : List Int))).bind fun bt394 => ((spec_l1Bytes.f k s0_0 bt394.2.1 bt394.2.2 bt394.1).bind fun bt397 => (some (bt397.1, bt397.2.1, bt397.2.2)))
theorem spec_l1Some.mono : ∀ a0 a1 a2 k, LeO (spec_l1Some.f k a0 a1 a2) (spec_l1Some.f (k + 1) a0 a1 a2) := by
  intro a0 a1 a2 k
  unfold spec_l1Some.f
  have m0 := @spec_l1Bytes.mono
  exact me
theorem spec_l1Some.calls (k : Nat) (g : Nat) (s0_0 : List Int) (s0_1 : Int) (s0_2 : Int) (r1 : List Int) (r2 : Int) (r3 : Int) (w0 w : World) (hI : IsS101 w0 w g s0_0 s0_1 s0_2) (hB : Below w0.heap.size w0 w) (h : spec_l1Some.f k s0_0 s0_1 s0_2 = some (r1, r2, r3)) :
    Calls Try.prog 106 #[.pointer (some ⟨g, 0, none⟩)] w fun e w' => ∃ v0_ : Value, e = .returned (v0_) ∧ Kd.R (Kd.int .u8) 5 w' w.heap.size (fun _ => True) v0_ r1 ∧ IsS101 w0 w' g s0_0 r2 r3 ∧ Below w0.heap.size w0 w' ∧ KeepBut w w' g none := by
 have HI0 := mk0 hI
 have HK := mk0 (KeepBut.refl w g none)
 have HL := mk0 hB.size
 clear hI
 have HW0 := mk0 hB.size
 have HB := mk0 hB
 clear hB
 have H : ((spec_l1Int.f s0_0 s0_1 s0_2 (([0, 1, 2, 5, 9] : List Int))).bind fun bt394 => ((spec_l1Bytes.f k s0_0 bt394.2.1 bt394.2.2 bt394.1).bind fun bt397 => (some (bt397.1, bt397.2.1, bt397.2.2)))) = some (r1, r2, r3) := h
 clear h
 obtain ⟨y391, Ny391⟩ := nm (([0, 1, 2, 5, 9] : List Int))
 replace H := bd H; obtain ⟨⟨t394, t395, t396⟩, A2, H⟩ := H; rw [← Ny391.out] at A2
 (try dsimp only at H)
 replace H := bd H; obtain ⟨⟨t397, t400, t401⟩, A3, H⟩ := H
 (try dsimp only at H)
 simp only [Option.some.injEq, Prod.mk.injEq] at H
 obtain ⟨rfl, rfl, rfl⟩ := H
 go_enter Try.func106, Try.ntmps106
 go_wp2_with (first | ((with_reducible refine gD 5 rfl ?_); refine lt (Kd.int .i64) 3 5 ([0, 1, 2, 5, 9] : List Int) [.int .i64 0, .int .i64 1, .int .i64 2, .int .i64 5, .int .i64 9] ?_; intro v392 w4 ho5 hb hg_ hnew_; clear hg_ hnew_; (first | rw [← Ny391.out] at ho5 | (simp only [Int.reduceToNat] at ho5; rw [← Ny391.out] at ho5)); have HO393 := mk0 (Kd.R_lower ho5 (keep_size (w := w) (g := g) (row := none) kk)); replace HK := mk0 (KeepBut.trans kk (KeepBut.of_below hb g none) (.inl rfl)); replace HB := mk0 (below_step (by repeat (first | (with_reducible first | exact HB.out | apply below_alloc | apply pw_below_drewN | apply below_drew1 | refine below_set ?_ (IsS101.ge HI0.out)) | exact HB.out)) hb); replace HI0 := mk0 (IsS101.below (by repeat (first | (with_reducible first | exact HI0.out | apply IsS101.alloc | apply IsS101.drewN | apply IsS101.drew | apply IsS101.set_1 | apply IsS101.set_2) | exact HI0.out)) hb); clear hb ho5; obtain ⟨Ao6, co6, eo6⟩ := Kd.R_slice HO393.out; subst eo6) | ((with_reducible refine gC 94 (some 6) rfl rfl ?_); refine gG (some 6) Try.func94 #[.pointer (some ⟨g, 0, none⟩), .slice Ao6 y391.length co6] ?_; refine (spec_l1Int.calls g s0_0 s0_1 s0_2 _ _ y391 t394 t395 t396 w0 _ ?side1 ?side2 (cc ((Kd.R_reads' HO393.out).2.2)) ((Kd.R_reads' HO393.out).2.1) ?side5 A2.out).mono ?_; (case side1 => repeat (first | (with_reducible first | exact HI0.out | apply IsS101.alloc | apply IsS101.drewN | apply IsS101.drew | apply IsS101.set_1 | apply IsS101.set_2) | exact HI0.out)); (case side2 => repeat (first | (with_reducible first | exact HB.out | apply below_alloc | apply pw_below_drewN | apply below_drew1 | refine below_set ?_ (IsS101.ge HI0.out)) | exact HB.out)); (case side5 => exact far_slice (IsS101.own_ne HI0.out HO393.out (by decide))); rintro e w7 ⟨rfl, hi, hb, hk⟩; refine ⟨_, rfl, ?_⟩; replace HO393 := mk0 (Kd.R_mono (Kd.R_keep (IsS101.apart (show IsS101 w0 _ g s0_0 s0_1 s0_2 from by repeat (first | (with_reducible first | exact HI0.out | apply IsS101.alloc | apply IsS101.drewN | apply IsS101.drew | apply IsS101.set_1 | apply IsS101.set_2) | exact HI0.out)) (rr HO393.out) (by decide)) hk (fun _ h => h.2)) (fun _ h => h.1)); replace HK := mk0 (KeepBut.trans kk hk (.inl rfl)); replace HB := mk0 (hb); replace HI0 := mk0 (hi); clear hb hk hi) | ((with_reducible refine gC 114 (some 7) rfl rfl ?_); refine gG (some 7) Try.func114 #[.pointer (some ⟨g, 0, none⟩), .int .i64 t394] ?_; refine (spec_l1Bytes.calls k g s0_0 t395 t396 t394 t397 t400 t401 w0 _ ?side1 ?side2 A3.out).mono ?_; (case side1 => repeat (first | (with_reducible first | exact HI0.out | apply IsS101.alloc | apply IsS101.drewN | apply IsS101.drew | apply IsS101.set_1 | apply IsS101.set_2) | exact HI0.out)); (case side2 => repeat (first | (with_reducible first | exact HB.out | apply below_alloc | apply pw_below_drewN | apply below_drew1 | refine below_set ?_ (IsS101.ge HI0.out)) | exact HB.out)); rintro e w8 ⟨v398, rfl, ho0, hi, hb, hk⟩; refine ⟨_, rfl, ?_⟩; replace HO393 := mk0 (Kd.R_mono (Kd.R_keep (IsS101.apart (show IsS101 w0 _ g s0_0 t395 t396 from by repeat (first | (with_reducible first | exact HI0.out | apply IsS101.alloc | apply IsS101.drewN | apply IsS101.drew | apply IsS101.set_1 | apply IsS101.set_2) | exact HI0.out)) (rr HO393.out) (by decide)) hk (fun _ h => h.2)) (fun _ h => h.1)); have HO399 := mk0 (Kd.R_lower ho0 (keep_size (w := w) (g := g) (row := none) kk)); replace HK := mk0 (KeepBut.trans kk hk (.inl rfl)); replace HB := mk0 (hb); replace HI0 := mk0 (hi); clear hb hk hi ho0))
 go_ret
 exact ⟨_, sw, rr HO399.out, by repeat (first | (with_reducible first | exact HI0.out | apply IsS101.alloc | apply IsS101.drewN | apply IsS101.drew | apply IsS101.set_1 | apply IsS101.set_2) | exact HI0.out), by repeat (first | (with_reducible first | exact HB.out | apply below_alloc | apply pw_below_drewN | apply below_drew1 | refine below_set ?_ (IsS101.ge HI0.out)) | exact HB.out), kk⟩
/-! ### spec_l15Roots: function 92 -/
def spec_l15Roots.l0 : Nat → List ByteArray → Int → List Int → Int → Int → Option (List ByteArray × Int × Int)
  | 0, _, _, _, _, _ => none
  | k + 1, x3, x4, x1000, x1001, x1002 => if x4 > 0 then ((spec_l1Some.f k x1000 x1001 x1002).bind fun bt408 => ((spec_Digest.f k bt408.1).bind fun t413 => (if x3.length < 8796093022208 then (spec_l15Roots.l0 k (x3 ++ [t413]) (wrap64 (x4 - 1)) x1000 bt408.2.1 bt408.2.2) else (none)))) else (some (x3, x1001, x1002))
def spec_l15Roots.f (k : Nat) (s0_0 : List Int) (s0_1 : Int) (s0_2 : Int) : Option (List ByteArray × Int × Int) := (spec_l1Below.f s0_0 s0_1 s0_2 3).bind fun bt405 => (spec_l15Roots.l0 k (([] : List ByteArray)) (wrap64 (1 + bt405.1)) s0_0 bt405.2.1 bt405.2.2)
theorem spec_l15Roots.mono_l : ∀ k, (∀ y0 y1 y2 y3 y4, LeO (spec_l15Roots.l0 k y0 y1 y2 y3 y4) (spec_l15Roots.l0 (k + 1) y0 y1 y2 y3 y4))
  | 0 => fun _ _ _ _ _ r h => by simp [spec_l15Roots.l0] at h
  | k + 1 => by
    have ih0 := spec_l15Roots.mono_l k
    · intro y0 y1 y2 y3 y4
      unfold spec_l15Roots.l0
      have m0 := @spec_Digest.mono
      have m1 := @spec_l1Some.mono
      exact me
theorem spec_l15Roots.mono : ∀ a0 a1 a2 k, LeO (spec_l15Roots.f k a0 a1 a2) (spec_l15Roots.f (k + 1) a0 a1 a2) := by
  intro a0 a1 a2 k
  have ih0 := spec_l15Roots.mono_l k
  unfold spec_l15Roots.f
  have m0 := @spec_Digest.mono
  have m1 := @spec_l1Some.mono
  exact me
theorem spec_l15Roots.calls (k : Nat) (g : Nat) (s0_0 : List Int) (s0_1 : Int) (s0_2 : Int) (r1 : List ByteArray) (r2 : Int) (r3 : Int) (w0 w : World) (hI : IsS101 w0 w g s0_0 s0_1 s0_2) (hB : Below w0.heap.size w0 w) (h : spec_l15Roots.f k s0_0 s0_1 s0_2 = some (r1, r2, r3)) :
    Calls Try.prog 92 #[.pointer (some ⟨g, 0, none⟩)] w fun e w' => ∃ v0_ : Value, e = .returned (v0_) ∧ Kd.R Kd.string 9 w' w.heap.size (fun _ => True) v0_ r1 ∧ IsS101 w0 w' g s0_0 r2 r3 ∧ Below w0.heap.size w0 w' ∧ KeepBut w w' g none := by
 have HI0 := mk0 hI
 have HK := mk0 (KeepBut.refl w g none)
 have HL := mk0 hB.size
 clear hI
 have HW0 := mk0 hB.size
 have HB := mk0 hB
 clear hB
 have H : ((spec_l1Below.f s0_0 s0_1 s0_2 3).bind fun bt405 => (spec_l15Roots.l0 k (([] : List ByteArray)) (wrap64 (1 + bt405.1)) s0_0 bt405.2.1 bt405.2.2)) = some (r1, r2, r3) := h
 clear h
 obtain ⟨y402, hy402⟩ : ∃ y_ : List ByteArray, y_ = (([] : List ByteArray)) := ⟨_, rfl⟩
 replace H : ((spec_l1Below.f s0_0 s0_1 s0_2 3).bind fun bt405 => (spec_l15Roots.l0 k y402 (wrap64 (1 + bt405.1)) s0_0 bt405.2.1 bt405.2.2)) = some (r1, r2, r3) := by first | (rw [hy402]; with_reducible exact H) | (have H2_ := (Option.bind_some _ _).symm.trans H; rw [hy402]; with_reducible exact H2_) | (have H2_ := (Option.bind_some _ _).symm.trans H; with_reducible exact H2_) | with_reducible exact H | (rw [hy402]; exact H) | exact H
 have Ny402 := mk0 hy402
 clear hy402
 replace H := bd H; obtain ⟨⟨t405, t406, t407⟩, A2, H⟩ := H
 (try dsimp only at H)
 have H' := mk0 H
 clear H
 go_enter Try.func92, Try.ntmps92
 go_wp2_with (first | ((with_reducible refine gD 5 rfl ?_); refine lt Kd.string 9 5 ([] : List ByteArray) [] ?_; intro v403 w3 ho4 hb hg_ hnew_; clear hg_ hnew_; (first | rw [← Ny402.out] at ho4 | (simp only [Int.reduceToNat] at ho4; rw [← Ny402.out] at ho4)); have HO404 := mk0 (Kd.R_lower ho4 (keep_size (w := w) (g := g) (row := none) kk)); replace HK := mk0 (KeepBut.trans kk (KeepBut.of_below hb g none) (.inl rfl)); replace HB := mk0 (below_step (by repeat (first | (with_reducible first | exact HB.out | apply below_alloc | apply pw_below_drewN | apply below_drew1 | refine below_set ?_ (IsS101.ge HI0.out)) | exact HB.out)) hb); replace HI0 := mk0 (IsS101.below (by repeat (first | (with_reducible first | exact HI0.out | apply IsS101.alloc | apply IsS101.drewN | apply IsS101.drew | apply IsS101.set_1 | apply IsS101.set_2) | exact HI0.out)) hb); clear hb ho4) | ((with_reducible refine gC 71 (some 7) rfl rfl ?_); refine gG (some 7) Try.func71 #[.pointer (some ⟨g, 0, none⟩), .int .i64 3] ?_; refine (spec_l1Below.calls g s0_0 s0_1 s0_2 3 t405 t406 t407 w0 _ ?side1 ?side2 A2.out).mono ?_; (case side1 => repeat (first | (with_reducible first | exact HI0.out | apply IsS101.alloc | apply IsS101.drewN | apply IsS101.drew | apply IsS101.set_1 | apply IsS101.set_2) | exact HI0.out)); (case side2 => repeat (first | (with_reducible first | exact HB.out | apply below_alloc | apply pw_below_drewN | apply below_drew1 | refine below_set ?_ (IsS101.ge HI0.out)) | exact HB.out)); rintro e w5 ⟨rfl, hi, hb, hk⟩; refine ⟨_, rfl, ?_⟩; replace HO404 := mk0 (Kd.R_mono (Kd.R_keep (IsS101.apart (show IsS101 w0 _ g s0_0 s0_1 s0_2 from by repeat (first | (with_reducible first | exact HI0.out | apply IsS101.alloc | apply IsS101.drewN | apply IsS101.drew | apply IsS101.set_1 | apply IsS101.set_2) | exact HI0.out)) (rr HO404.out) (by decide)) hk (fun _ h => h.2)) (fun _ h => h.1)); replace HK := mk0 (KeepBut.trans kk hk (.inl rfl)); replace HB := mk0 (hb); replace HI0 := mk0 (hi); clear hb hk hi))
 go_loopg [3, 4] k (fun kq v3 v4 w' => ∃ (x3_1 : List ByteArray) (x4_1 : Int) (x1001_1 : Int) (x1002_1 : Int), v4 = .int .i64 x4_1 ∧ Aside0 (spec_l15Roots.l0 kq x3_1 x4_1 s0_0 x1001_1 x1002_1 = some (r1, r2, r3)) ∧ Aside0 (kq ≤ k) ∧ Aside0 (Kd.R Kd.string 9 w' w.heap.size (fun _ => True) v3 x3_1) ∧ Aside0 (IsS101 w0 w' g s0_0 x1001_1 x1002_1) ∧ Aside0 (KeepBut w w' g none) ∧ Aside0 (Below w0.heap.size w0 w'))
 case atStart => exact ⟨(y402), (wrap64 (1 + t405)), (t406), (t407), sv, H', nl, ⟨rr HO404.out⟩, ⟨by repeat (first | (with_reducible first | exact HI0.out | apply IsS101.alloc | apply IsS101.drewN | apply IsS101.drew | apply IsS101.set_1 | apply IsS101.set_2) | exact HI0.out)⟩, ⟨kk⟩, ⟨by repeat (first | (with_reducible first | exact HB.out | apply below_alloc | apply pw_below_drewN | apply below_drew1 | refine below_set ?_ (IsS101.ge HI0.out)) | exact HB.out)⟩⟩
 case round =>
  clear H'
  obtain ⟨x3_1, x4_1, x1001_1, x1002_1, rfl, HA, HK1, HO_3, HI0, HK, HB⟩ := hrel
  rcases gk with _ | k1
  · exact absurd HA.out (by simp [spec_l15Roots.l0])
  have H := HA.out
  clear HA
  simp only [spec_l15Roots.l0] at H
  replace H := ip H; rcases H with ⟨c6, H⟩ | ⟨c6, H⟩
  · have c6b0 : decide (0 < x4_1) = true := decide_eq_true c6
    clear c6
    replace H := bd H; obtain ⟨⟨t408, t411, t412⟩, A7, H⟩ := H
    (try dsimp only at H)
    replace H := bd H; obtain ⟨t413, A8, H⟩ := H
    replace H := gl H; obtain ⟨LMc9, H⟩ := H
    obtain ⟨y414, Ny414⟩ := nm (x3_1 ++ [t413])
    rw [← Ny414.out] at H
    have H' := mk0 H
    clear H
    go_wp2_with (first | ((with_reducible refine gC 106 (some 15) rfl rfl ?_); refine gG (some 15) Try.func106 #[.pointer (some ⟨g, 0, none⟩)] ?_; refine (spec_l1Some.calls k1 g s0_0 x1001_1 x1002_1 t408 t411 t412 w0 _ ?side1 ?side2 A7.out).mono ?_; (case side1 => repeat (first | (with_reducible first | exact HI0.out | apply IsS101.alloc | apply IsS101.drewN | apply IsS101.drew | apply IsS101.set_1 | apply IsS101.set_2) | exact HI0.out)); (case side2 => repeat (first | (with_reducible first | exact HB.out | apply below_alloc | apply pw_below_drewN | apply below_drew1 | refine below_set ?_ (IsS101.ge HI0.out)) | exact HB.out)); rintro e w10 ⟨v409, rfl, ho0, hi, hb, hk⟩; refine ⟨_, rfl, ?_⟩; replace HO_3 := mk0 (Kd.R_mono (Kd.R_keep (IsS101.apart (show IsS101 w0 _ g s0_0 x1001_1 x1002_1 from by repeat (first | (with_reducible first | exact HI0.out | apply IsS101.alloc | apply IsS101.drewN | apply IsS101.drew | apply IsS101.set_1 | apply IsS101.set_2) | exact HI0.out)) (rr HO_3.out) (by decide)) hk (fun _ h => h.2)) (fun _ h => h.1)); have HO410 := mk0 (Kd.R_lower ho0 (keep_size (w := w) (g := g) (row := none) kk)); replace HK := mk0 (KeepBut.trans kk hk (.inl rfl)); replace HB := mk0 (hb); replace HI0 := mk0 (hi); clear hb hk hi ho0; obtain ⟨Ao11, co11, eo11⟩ := Kd.R_slice HO410.out; subst eo11) | ((with_reducible refine gC 35 (some 16) rfl rfl ?_); refine gB (some 16) Try.func35 #[.slice Ao11 t408.length co11] (spec_Digest.calls k1 _ _ t408 t413 _ (cc ((Kd.R_reads' HO410.out).2.2)) ((Kd.R_reads' HO410.out).2.1) A8.out) ?_; intro w12 hb; replace HO_3 := mk0 (Kd.R_below (rr HO_3.out) hb); replace HO410 := mk0 (Kd.R_below (rr HO410.out) hb); replace HK := mk0 (KeepBut.trans kk (KeepBut.of_below hb g none) (.inl rfl)); replace HB := mk0 (below_step (by repeat (first | (with_reducible first | exact HB.out | apply below_alloc | apply pw_below_drewN | apply below_drew1 | refine below_set ?_ (IsS101.ge HI0.out)) | exact HB.out)) hb); replace HI0 := mk0 (IsS101.below (by repeat (first | (with_reducible first | exact HI0.out | apply IsS101.alloc | apply IsS101.drewN | apply IsS101.drew | apply IsS101.set_1 | apply IsS101.set_2) | exact HI0.out)) hb); clear hb) | ((with_reducible refine gate_builtin (b := .append) (xs := #[.tmp 13, .tmp 17]) rfl ?_); at_builtin; refine Kd.R_append Kd.string w.heap.size rfl (.tmp 13) (.tmp 17) 22 9 (.string ⟨#[]⟩) 16 rfl Try.underlying22 info9 rfl (by decide) (by omega) u3 x3_1 t413 [.string t413] (fun _ => True) (fun _ => False) rfl rfl ?aP (fun _ hk => hk.elim) ?aF ?aO (Below.refl _ _) ?aS ?aL ?_; (case aP => exact rfl); (case aF => exact (fun _ _ => trivial)); (case aO => exact (rr HO_3.out)); (case aS => exact (keep_size (w := w) (g := g) (row := none) kk)); (case aL => have := LMc9.out; omega); intro v415 w13 ho hb hg hat; rw [← Ny414.out] at ho; replace HO410 := mk0 (Kd.R_over' (rr HO410.out) (Kd.R_typed (rr HO_3.out)) (by decide) hg); replace HB := mk0 (below_weaken (by repeat (first | (with_reducible first | exact HB.out | apply below_alloc | apply pw_below_drewN | apply below_drew1 | refine below_set ?_ (IsS101.ge HI0.out)) | exact HB.out)) HL.out hb); replace HI0 := mk0 (IsS101.grown (by repeat (first | (with_reducible first | exact HI0.out | apply IsS101.alloc | apply IsS101.drewN | apply IsS101.drew | apply IsS101.set_1 | apply IsS101.set_2) | exact HI0.out)) hg (IsS101.own_ne HI0.out HO_3.out (by decide))); replace HK := mk0 (KeepBut.trans kk (KeepBut.of_grown hg g) (Kd.R_base2 HO_3.out)); have HO416 := mk0 (ho); clear HO_3; clear ho hb hg hat))
    go_roundg k1
    case measure => have := HK1.out; omega
    case rel => exact ⟨(y414), (wrap64 (x4_1 - 1)), (t411), (t412), sv, H', hk1, ⟨rr HO416.out⟩, ⟨by repeat (first | (with_reducible first | exact HI0.out | apply IsS101.alloc | apply IsS101.drewN | apply IsS101.drew | apply IsS101.set_1 | apply IsS101.set_2) | exact HI0.out)⟩, ⟨kk⟩, ⟨by repeat (first | (with_reducible first | exact HB.out | apply below_alloc | apply pw_below_drewN | apply below_drew1 | refine below_set ?_ (IsS101.ge HI0.out)) | exact HB.out)⟩⟩
  · have c6b0 : decide (0 < x4_1) = false := decide_eq_false c6
    clear c6
    simp only [Option.some.injEq, Prod.mk.injEq] at H
    obtain ⟨rfl, rfl, rfl⟩ := H
    go_wp2
    go_ret
    exact ⟨_, sw, rr HO_3.out, by repeat (first | (with_reducible first | exact HI0.out | apply IsS101.alloc | apply IsS101.drewN | apply IsS101.drew | apply IsS101.set_1 | apply IsS101.set_2) | exact HI0.out), by repeat (first | (with_reducible first | exact HB.out | apply below_alloc | apply pw_below_drewN | apply below_drew1 | refine below_set ?_ (IsS101.ge HI0.out)) | exact HB.out), kk⟩
/-! ### spec_l15Draw: function 69 -/
def spec_l15Draw.l0 : Nat → List (S32) → Int → List Int → Int → Int → Option ((List (S32)) × Int × Int)
  | 0, _, _, _, _, _ => none
  | k + 1, x3, x4, x1000, x1001, x1002 => if x4 > 0 then ((spec_l15Prev.f k x3).bind fun t423 => ((spec_l15Roots.f k x1000 x1001 x1002).bind fun bt424 => ((spec_SuperOf.f k (wrap64 ((x3.length : Int) + 1)) t423 bt424.1).bind fun t430 => (if x3.length < 2199023255552 then (spec_l15Draw.l0 k (x3 ++ [(⟨wrap64 ((x3.length : Int) + 1), t423, t430, bt424.1⟩ : S32)]) (wrap64 (x4 - 1)) x1000 bt424.2.1 bt424.2.2) else (none))))) else (some (x3, x1001, x1002))
def spec_l15Draw.f (k : Nat) (s0_0 : List Int) (s0_1 : Int) (s0_2 : Int) : Option ((List (S32)) × Int × Int) := (spec_l1Below.f s0_0 s0_1 s0_2 4).bind fun bt420 => (spec_l15Draw.l0 k (([] : List (S32))) bt420.1 s0_0 bt420.2.1 bt420.2.2)
theorem spec_l15Draw.mono_l : ∀ k, (∀ y0 y1 y2 y3 y4, LeO (spec_l15Draw.l0 k y0 y1 y2 y3 y4) (spec_l15Draw.l0 (k + 1) y0 y1 y2 y3 y4))
  | 0 => fun _ _ _ _ _ r h => by simp [spec_l15Draw.l0] at h
  | k + 1 => by
    have ih0 := spec_l15Draw.mono_l k
    · intro y0 y1 y2 y3 y4
      unfold spec_l15Draw.l0
      have m0 := @spec_SuperOf.mono
      have m1 := @spec_l15Prev.mono
      have m2 := @spec_l15Roots.mono
      exact me
theorem spec_l15Draw.mono : ∀ a0 a1 a2 k, LeO (spec_l15Draw.f k a0 a1 a2) (spec_l15Draw.f (k + 1) a0 a1 a2) := by
  intro a0 a1 a2 k
  have ih0 := spec_l15Draw.mono_l k
  unfold spec_l15Draw.f
  have m0 := @spec_SuperOf.mono
  have m1 := @spec_l15Prev.mono
  have m2 := @spec_l15Roots.mono
  exact me
theorem spec_l15Draw.calls (k : Nat) (g : Nat) (s0_0 : List Int) (s0_1 : Int) (s0_2 : Int) (r1 : List (S32)) (r2 : Int) (r3 : Int) (w0 w : World) (hI : IsS101 w0 w g s0_0 s0_1 s0_2) (hB : Below w0.heap.size w0 w) (h : spec_l15Draw.f k s0_0 s0_1 s0_2 = some (r1, r2, r3)) :
    Calls Try.prog 69 #[.pointer (some ⟨g, 0, none⟩)] w fun e w' => ∃ v0_ : Value, e = .returned (v0_) ∧ Kd.S k32 32 w' w.heap.size (fun _ => True) v0_ r1 ∧ IsS101 w0 w' g s0_0 r2 r3 ∧ Below w0.heap.size w0 w' ∧ KeepBut w w' g none := by
 have hu32 := Try.underlying32
 have HI0 := mk0 hI
 have HK := mk0 (KeepBut.refl w g none)
 have HL := mk0 hB.size
 clear hI
 have HW0 := mk0 hB.size
 have HB := mk0 hB
 clear hB
 have H : ((spec_l1Below.f s0_0 s0_1 s0_2 4).bind fun bt420 => (spec_l15Draw.l0 k (([] : List (S32))) bt420.1 s0_0 bt420.2.1 bt420.2.2)) = some (r1, r2, r3) := h
 clear h
 obtain ⟨y417, hy417⟩ : ∃ y_ : List (S32), y_ = (([] : List (S32))) := ⟨_, rfl⟩
 replace H : ((spec_l1Below.f s0_0 s0_1 s0_2 4).bind fun bt420 => (spec_l15Draw.l0 k y417 bt420.1 s0_0 bt420.2.1 bt420.2.2)) = some (r1, r2, r3) := by first | (rw [hy417]; with_reducible exact H) | (have H2_ := (Option.bind_some _ _).symm.trans H; rw [hy417]; with_reducible exact H2_) | (have H2_ := (Option.bind_some _ _).symm.trans H; with_reducible exact H2_) | with_reducible exact H | (rw [hy417]; exact H) | exact H
 have Ny417 := mk0 hy417
 clear hy417
 replace H := bd H; obtain ⟨⟨t420, t421, t422⟩, A2, H⟩ := H
 (try dsimp only at H)
 have H' := mk0 H
 clear H
 go_enter Try.func69, Try.ntmps69
 go_wp2_with (first | ((with_reducible refine gD 6 rfl ?_); refine Kd.S_lit k32 _ 32 ?hg (N := 6) ?hd (xs := ([] : List (S32))) (inner := []) (ok := fun _ => True) (okp := fun _ => True) ?hr ?hp (fun _ hk => hk) trivial (Below.refl _ _) (Nat.le_refl _) (by simp) ?_; (case hd => rfl); (case hg => rfl); (case hr => first | (go_simp; done) | (go_simp; rfl)); (case hp => exact (Reps.none _ _)); intro v418 w3 ho4 hb hg_ hnew_; clear hg_ hnew_; (first | rw [← Ny417.out] at ho4 | (simp only [Int.reduceToNat] at ho4; rw [← Ny417.out] at ho4)); have HO419 := mk0 (Kd.S_lower ho4 (keep_size (w := w) (g := g) (row := none) kk)); replace HK := mk0 (KeepBut.trans kk (KeepBut.of_below hb g none) (.inl rfl)); replace HB := mk0 (below_step (by repeat (first | (with_reducible first | exact HB.out | apply below_alloc | apply pw_below_drewN | apply below_drew1 | refine below_set ?_ (IsS101.ge HI0.out)) | exact HB.out)) hb); replace HI0 := mk0 (IsS101.below (by repeat (first | (with_reducible first | exact HI0.out | apply IsS101.alloc | apply IsS101.drewN | apply IsS101.drew | apply IsS101.set_1 | apply IsS101.set_2) | exact HI0.out)) hb); clear hb ho4) | ((with_reducible refine gC 71 (some 8) rfl rfl ?_); refine gG (some 8) Try.func71 #[.pointer (some ⟨g, 0, none⟩), .int .i64 4] ?_; refine (spec_l1Below.calls g s0_0 s0_1 s0_2 4 t420 t421 t422 w0 _ ?side1 ?side2 A2.out).mono ?_; (case side1 => repeat (first | (with_reducible first | exact HI0.out | apply IsS101.alloc | apply IsS101.drewN | apply IsS101.drew | apply IsS101.set_1 | apply IsS101.set_2) | exact HI0.out)); (case side2 => repeat (first | (with_reducible first | exact HB.out | apply below_alloc | apply pw_below_drewN | apply below_drew1 | refine below_set ?_ (IsS101.ge HI0.out)) | exact HB.out)); rintro e w5 ⟨rfl, hi, hb, hk⟩; refine ⟨_, rfl, ?_⟩; replace HO419 := mk0 (Kd.S_mono (Kd.S_keep (IsS101.apartS (show IsS101 w0 _ g s0_0 s0_1 s0_2 from by repeat (first | (with_reducible first | exact HI0.out | apply IsS101.alloc | apply IsS101.drewN | apply IsS101.drew | apply IsS101.set_1 | apply IsS101.set_2) | exact HI0.out)) (rS HO419.out) (by decide)) hk (fun _ h => h.2)) (fun _ h => h.1)); replace HK := mk0 (KeepBut.trans kk hk (.inl rfl)); replace HB := mk0 (hb); replace HI0 := mk0 (hi); clear hb hk hi))
 go_loopg [3, 4] k (fun kq v3 v4 w' => ∃ (x3_1 : List (S32)) (x4_1 : Int) (x1001_1 : Int) (x1002_1 : Int), v4 = .int .i64 x4_1 ∧ Aside0 (spec_l15Draw.l0 kq x3_1 x4_1 s0_0 x1001_1 x1002_1 = some (r1, r2, r3)) ∧ Aside0 (kq ≤ k) ∧ Aside0 (Kd.S k32 32 w' w.heap.size (fun _ => True) v3 x3_1) ∧ Aside0 (IsS101 w0 w' g s0_0 x1001_1 x1002_1) ∧ Aside0 (KeepBut w w' g none) ∧ Aside0 (Below w0.heap.size w0 w'))
 case atStart => exact ⟨(y417), (t420), (t421), (t422), sv, H', nl, ⟨rS HO419.out⟩, ⟨by repeat (first | (with_reducible first | exact HI0.out | apply IsS101.alloc | apply IsS101.drewN | apply IsS101.drew | apply IsS101.set_1 | apply IsS101.set_2) | exact HI0.out)⟩, ⟨kk⟩, ⟨by repeat (first | (with_reducible first | exact HB.out | apply below_alloc | apply pw_below_drewN | apply below_drew1 | refine below_set ?_ (IsS101.ge HI0.out)) | exact HB.out)⟩⟩
 case round =>
  clear H'
  obtain ⟨x3_1, x4_1, x1001_1, x1002_1, rfl, HA, HK1, HO_3, HI0, HK, HB⟩ := hrel
  rcases gk with _ | k1
  · exact absurd HA.out (by simp [spec_l15Draw.l0])
  have H := HA.out
  clear HA
  simp only [spec_l15Draw.l0] at H
  replace H := ip H; rcases H with ⟨c6, H⟩ | ⟨c6, H⟩
  · have c6b0 : decide (0 < x4_1) = true := decide_eq_true c6
    clear c6
    replace H := bd H; obtain ⟨t423, A7, H⟩ := H
    replace H := bd H; obtain ⟨⟨t424, t427, t428⟩, A8, H⟩ := H
    (try dsimp only at H)
    replace H := bd H; obtain ⟨t430, A9, H⟩ := H
    replace H := gl H; obtain ⟨LMc10, H⟩ := H
    obtain ⟨y431, Ny431⟩ := nm (x3_1 ++ [(⟨wrap64 ((x3_1.length : Int) + 1), t423, t430, t424⟩ : S32)])
    rw [← Ny431.out] at H
    have H' := mk0 H
    clear H
    obtain ⟨Ao11, co11, eo11⟩ := Kd.S_slice HO_3.out
    subst eo11
    go_wp2_with (first | ((with_reducible refine gC 46 (some 17) rfl rfl ?_); refine gB (some 17) Try.func46 #[.slice Ao11 x3_1.length co11] (spec_l15Prev.calls k1 _ _ x3_1 t423 _ (cc ((Kd.S_reads' HO_3.out).2.2)) ((Kd.S_reads' HO_3.out).2.1) A7.out) ?_; intro w12 hb; replace HO_3 := mk0 (Kd.S_below (rS HO_3.out) hb); replace HK := mk0 (KeepBut.trans kk (KeepBut.of_below hb g none) (.inl rfl)); replace HB := mk0 (below_step (by repeat (first | (with_reducible first | exact HB.out | apply below_alloc | apply pw_below_drewN | apply below_drew1 | refine below_set ?_ (IsS101.ge HI0.out)) | exact HB.out)) hb); replace HI0 := mk0 (IsS101.below (by repeat (first | (with_reducible first | exact HI0.out | apply IsS101.alloc | apply IsS101.drewN | apply IsS101.drew | apply IsS101.set_1 | apply IsS101.set_2) | exact HI0.out)) hb); clear hb) | ((with_reducible refine gC 92 (some 19) rfl rfl ?_); refine gG (some 19) Try.func92 #[.pointer (some ⟨g, 0, none⟩)] ?_; refine (spec_l15Roots.calls k1 g s0_0 x1001_1 x1002_1 t424 t427 t428 w0 _ ?side1 ?side2 A8.out).mono ?_; (case side1 => repeat (first | (with_reducible first | exact HI0.out | apply IsS101.alloc | apply IsS101.drewN | apply IsS101.drew | apply IsS101.set_1 | apply IsS101.set_2) | exact HI0.out)); (case side2 => repeat (first | (with_reducible first | exact HB.out | apply below_alloc | apply pw_below_drewN | apply below_drew1 | refine below_set ?_ (IsS101.ge HI0.out)) | exact HB.out)); rintro e w13 ⟨v425, rfl, ho0, hi, hb, hk⟩; refine ⟨_, rfl, ?_⟩; replace HO_3 := mk0 (Kd.S_mono (Kd.S_told (Kd.S_oldK (IsS101.apartS (show IsS101 w0 _ g s0_0 x1001_1 x1002_1 from by repeat (first | (with_reducible first | exact HI0.out | apply IsS101.alloc | apply IsS101.drewN | apply IsS101.drew | apply IsS101.set_1 | apply IsS101.set_2) | exact HI0.out)) (rS HO_3.out) (by decide)) hk) (Kd.R_base ho0)) (fun _ h_ => h_.1)); have HO426 := mk0 (Kd.R_lower ho0 (keep_size (w := w) (g := g) (row := none) kk)); replace HK := mk0 (KeepBut.trans kk hk (.inl rfl)); replace HB := mk0 (hb); replace HI0 := mk0 (hi); clear hb hk hi ho0; obtain ⟨Ao14, co14, eo14⟩ := Kd.R_slice HO426.out; subst eo14) | ((with_reducible refine gD 5 rfl ?_); refine bx0 5 #[.int .i64 0, .string (⟨#[]⟩ : ByteArray), .string (⟨#[]⟩ : ByteArray), .slice none 0 0] 32 ?_; intro gb429 hg w15 hbox hb; replace HO_3 := mk0 (Kd.S_below (Kd.S_elderB (rS HO_3.out) gb429 (Nat.le_of_eq hg.symm)) hb); replace HO426 := mk0 (Kd.R_below (rr HO426.out) hb); replace HB := mk0 (below_step (by repeat (first | (with_reducible first | exact HB.out | apply below_alloc | apply pw_below_drewN | apply below_drew1 | refine below_set ?_ (IsS101.ge HI0.out)) | exact HB.out)) hb); have BK429 := mk0 (hbox); have GW429 := mk0 ((by rw [hg]; exact (keep_size (w := w) (g := g) (row := none) kk) : w.heap.size ≤ gb429)); have GE429 := mk0 ((Nat.le_trans HW0.out (by rw [hg]; exact (keep_size (w := w) (g := g) (row := none) kk) : w.heap.size ≤ gb429) : w0.heap.size ≤ gb429)); replace HK := mk0 (KeepBut.trans kk (KeepBut.of_below hb g none) (.inl rfl)); have NB0_429 := mk0 ((by rw [hg]; exact Nat.ne_of_lt (IsS101.lt (show IsS101 w0 _ g s0_0 t427 t428 from by repeat (first | (with_reducible first | exact HI0.out | apply IsS101.alloc | apply IsS101.drewN | apply IsS101.drew | apply IsS101.set_1 | apply IsS101.set_2) | exact HI0.out))) : g ≠ gb429)); have NB429_0 := mk0 ((by rw [hg]; exact Nat.ne_of_gt (IsS101.lt (show IsS101 w0 _ g s0_0 t427 t428 from by repeat (first | (with_reducible first | exact HI0.out | apply IsS101.alloc | apply IsS101.drewN | apply IsS101.drew | apply IsS101.set_1 | apply IsS101.set_2) | exact HI0.out))) : gb429 ≠ g)); replace HI0 := mk0 (IsS101.below (by repeat (first | (with_reducible first | exact HI0.out | apply IsS101.alloc | apply IsS101.drewN | apply IsS101.drew | apply IsS101.set_1 | apply IsS101.set_2) | exact HI0.out)) hb); clear hb hbox hg; have hnb16 := NB429_0.out; have hnc16 := NB0_429.out; obtain ⟨hcz17_0, hcz17_1, hcz17_2, hcz17_3, hfz17_0, hfz17_1, hfz17_2, hfz17_3⟩ := z4 BK429) | ((with_reducible refine gC 9 (some 27) rfl rfl ?_); refine gB (some 27) Try.func9 #[.int .i64 (wrap64 ((x3_1.length : Int) + 1)), .string t423, .slice Ao14 t424.length co14] (spec_SuperOf.calls k1 (wrap64 ((x3_1.length : Int) + 1)) t423 _ _ t424 t430 _ ?side1 ((Kd.R_reads' HO426.out).2.1) A9.out) ?_; (case side1 => refine (Kd.R_reads' (e := 9) (base := w.heap.size) (ok := fun k_ => True) (n := t424.length) (c := co14) ?_).2.2; exact (by (with_reducible repeat (first | apply Kd.R_alloc | apply Kd.R_drewN | apply Kd.R_drew)); exact (Kd.R_mono (Kd.R_far (p := ⟨gb429, 3, none⟩) (Kd.R_far (p := ⟨gb429, 2, none⟩) (Kd.R_far (p := ⟨gb429, 1, none⟩) (Kd.R_far (p := ⟨gb429, 0, none⟩) (Kd.R_types HO426.out BK429.out (by decide)) (fun _ hk => hk.2) (.int .i64 (wrap64 ((x3_1.length : Int) + 1)))) (fun _ hk => hk.2) (.string t423)) (fun _ hk => hk.2) (.string (⟨#[]⟩ : ByteArray))) (fun _ hk => hk.2) (.slice Ao14 t424.length co14)) (fun _ h_ => h_.1)))); intro w18 hb; replace HO_3 := mk0 (Kd.S_below (by (with_reducible repeat (first | apply Kd.S_alloc | apply Kd.S_drewN | apply Kd.S_drew)); exact (Kd.S_mono (Kd.S_far (p := ⟨gb429, 3, none⟩) (Kd.S_far (p := ⟨gb429, 2, none⟩) (Kd.S_far (p := ⟨gb429, 1, none⟩) (Kd.S_far (p := ⟨gb429, 0, none⟩) (Kd.S_mono HO_3.out (fun k_ hk => (⟨hk, hk.2⟩ : _ ∧ k_ ≠ gb429))) (fun _ hk => hk.2) (.int .i64 (wrap64 ((x3_1.length : Int) + 1)))) (fun _ hk => hk.2) (.string t423)) (fun _ hk => hk.2) (.string (⟨#[]⟩ : ByteArray))) (fun _ hk => hk.2) (.slice Ao14 t424.length co14)) (fun _ h_ => h_.1))) hb); replace HO426 := mk0 (Kd.R_below (by (with_reducible repeat (first | apply Kd.R_alloc | apply Kd.R_drewN | apply Kd.R_drew)); exact (Kd.R_mono (Kd.R_far (p := ⟨gb429, 3, none⟩) (Kd.R_far (p := ⟨gb429, 2, none⟩) (Kd.R_far (p := ⟨gb429, 1, none⟩) (Kd.R_far (p := ⟨gb429, 0, none⟩) (Kd.R_types HO426.out BK429.out (by decide)) (fun _ hk => hk.2) (.int .i64 (wrap64 ((x3_1.length : Int) + 1)))) (fun _ hk => hk.2) (.string t423)) (fun _ hk => hk.2) (.string (⟨#[]⟩ : ByteArray))) (fun _ hk => hk.2) (.slice Ao14 t424.length co14)) (fun _ h_ => h_.1))) hb); replace BK429 := mk0 (blk_below (g := gb429) (o := .cells #[.int .i64 (wrap64 ((x3_1.length : Int) + 1)), .string t423, .string (⟨#[]⟩ : ByteArray), .slice Ao14 t424.length co14] 32 (0, 0)) (by (with_reducible repeat (first | refine blk_drewN ?_ _ | refine blk_drew ?_ | refine blk_alloc ?_ _)); refine blk_put (cs := #[.int .i64 (wrap64 ((x3_1.length : Int) + 1)), .string t423, .string (⟨#[]⟩ : ByteArray), .slice none 0 0]) ?_ 3 _ rfl; (with_reducible repeat (first | refine blk_drewN ?_ _ | refine blk_drew ?_ | refine blk_alloc ?_ _)); refine blk_put (cs := #[.int .i64 (wrap64 ((x3_1.length : Int) + 1)), .string t423, .string (⟨#[]⟩ : ByteArray), .slice none 0 0]) ?_ 2 _ rfl; (with_reducible repeat (first | refine blk_drewN ?_ _ | refine blk_drew ?_ | refine blk_alloc ?_ _)); refine blk_put (cs := #[.int .i64 (wrap64 ((x3_1.length : Int) + 1)), .string (⟨#[]⟩ : ByteArray), .string (⟨#[]⟩ : ByteArray), .slice none 0 0]) ?_ 1 _ rfl; (with_reducible repeat (first | refine blk_drewN ?_ _ | refine blk_drew ?_ | refine blk_alloc ?_ _)); refine blk_put (cs := #[.int .i64 0, .string (⟨#[]⟩ : ByteArray), .string (⟨#[]⟩ : ByteArray), .slice none 0 0]) ?_ 0 _ rfl; (with_reducible repeat (first | refine blk_drewN ?_ _ | refine blk_drew ?_ | refine blk_alloc ?_ _)); exact BK429.out) hb); replace HK := mk0 (KeepBut.trans (by repeat (first | (with_reducible first | exact HK.out | apply KeepBut.set_ | apply keep_drewN | apply keep_drew | apply keep_alloc | refine keep_far ?_ GW429.out _) | exact HK.out)) (KeepBut.of_below hb g none) (.inl rfl)); replace HB := mk0 (below_step (by repeat (first | (with_reducible first | exact HB.out | apply below_alloc | apply pw_below_drewN | apply below_drew1 | refine below_set ?_ (IsS101.ge HI0.out) | refine below_set ?_ GE429.out) | exact HB.out)) hb); replace HI0 := mk0 (IsS101.below (show IsS101 w0 ((((w15.setCell ⟨gb429, 0, none⟩ (.int .i64 (wrap64 ((x3_1.length : Int) + 1)))).setCell ⟨gb429, 1, none⟩ (.string t423)).setCell ⟨gb429, 2, none⟩ (.string (⟨#[]⟩ : ByteArray))).setCell ⟨gb429, 3, none⟩ (.slice Ao14 t424.length co14)) g s0_0 t427 t428 from by repeat (first | (with_reducible first | exact HI0.out | apply IsS101.alloc | apply IsS101.drewN | apply IsS101.drew | apply IsS101.set_1 | apply IsS101.set_2 | refine IsS101.far ?_ NB0_429.out _) | exact HI0.out)) hb); clear hb; obtain ⟨hcz19_0, hcz19_1, hcz19_2, hcz19_3, hfz19_0, hfz19_1, hfz19_2, hfz19_3⟩ := z4 BK429) | ((with_reducible refine gS 9 28 rfl ?_); refine sr 9 28 (w1 := (w18.setCell ⟨gb429, 2, none⟩ (.string t430))) ?_; intro w20 hw; have n0_ : Aside0 (Kd.S k32 32 w20 w.heap.size (fun k_ => some k_ ≠ (.slice Ao14 t424.length co14 : Value).ownBlock ∧ k_ ≠ gb429) (.slice Ao11 x3_1.length co11) x3_1) := ⟨(by rw [hw]; exact (by (with_reducible repeat (first | apply Kd.S_alloc | apply Kd.S_drewN | apply Kd.S_drew)); exact Kd.S_mono (Kd.S_far (p := ⟨gb429, 2, none⟩) (Kd.S_mono HO_3.out (fun k_ hk => (⟨hk, hk.2⟩ : _ ∧ k_ ≠ gb429))) (fun _ hk => hk.2) (.string t430)) (fun _ hk => ⟨hk.1.1.2, hk.1.2⟩)))⟩; have n1_ : Aside0 (Kd.R Kd.string 9 w20 w.heap.size (fun _ => True) (.slice Ao14 t424.length co14) t424) := ⟨(by rw [hw]; exact (by (with_reducible repeat (first | apply Kd.R_alloc | apply Kd.R_drewN | apply Kd.R_drew)); exact Kd.R_mono (Kd.R_far (p := ⟨gb429, 2, none⟩) (Kd.R_types HO426.out BK429.out (by decide)) (fun _ hk => hk.2) (.string t430)) (fun _ hk => trivial)))⟩; have n2_ : Aside0 (w20.heap[gb429]? = some (.cells #[.int .i64 (wrap64 ((x3_1.length : Int) + 1)), .string t423, .string t430, .slice Ao14 t424.length co14] 32 (0, 0))) := ⟨(by rw [hw]; exact (by (with_reducible repeat (first | refine blk_drewN ?_ _ | refine blk_drew ?_ | refine blk_alloc ?_ _)); refine blk_put (cs := #[.int .i64 (wrap64 ((x3_1.length : Int) + 1)), .string t423, .string (⟨#[]⟩ : ByteArray), .slice Ao14 t424.length co14]) ?_ 2 _ rfl; (with_reducible repeat (first | refine blk_drewN ?_ _ | refine blk_drew ?_ | refine blk_alloc ?_ _)); exact BK429.out))⟩; have n3_ : Aside0 (IsS101 w0 w20 g s0_0 t427 t428) := ⟨(by rw [hw]; exact (by repeat (first | (with_reducible first | exact HI0.out | apply IsS101.alloc | apply IsS101.drewN | apply IsS101.drew | apply IsS101.set_1 | apply IsS101.set_2 | refine IsS101.far ?_ NB0_429.out _) | exact HI0.out)))⟩; have n4_ : Aside0 (KeepBut w w20 g none) := ⟨(by rw [hw]; exact (by repeat (first | (with_reducible first | exact HK.out | apply KeepBut.set_ | apply keep_drewN | apply keep_drew | apply keep_alloc | refine keep_far ?_ GW429.out _) | exact HK.out)))⟩; have n5_ : Aside0 (Below w0.heap.size w0 w20) := ⟨(by rw [hw]; exact (by repeat (first | (with_reducible first | exact HB.out | apply below_alloc | apply pw_below_drewN | apply below_drew1 | refine below_set ?_ (IsS101.ge HI0.out) | refine below_set ?_ GE429.out) | exact HB.out)))⟩; clear hw; clear HO_3; clear HO426; clear BK429; clear HI0; clear HK; clear HB; have HO_3 := n0_; have HO426 := n1_; have BK429 := n2_; have HI0 := n3_; have HK := n4_; have HB := n5_; clear n0_ n1_ n2_ n3_ n4_ n5_; obtain ⟨hcz21_0, hcz21_1, hcz21_2, hcz21_3, hfz21_0, hfz21_1, hfz21_2, hfz21_3⟩ := z4 BK429) | ((with_reducible refine gate_builtin (b := .append) (xs := #[.tmp 29, .tmp 31]) rfl ?_); at_builtin; refine Kd.S_append k32 w.heap.size rfl (.tmp 29) (.tmp 31) 38 32 (.agg #[(.int .i64 0), (.string ⟨#[]⟩), (.string ⟨#[]⟩), (.slice none 0 0)]) 64 rfl Try.underlying38 info32 rfl (by decide) (by omega) (.slice Ao11 x3_1.length co11) x3_1 (⟨wrap64 ((x3_1.length : Int) + 1), t423, t430, t424⟩ : S32) [.int .i64 (wrap64 ((x3_1.length : Int) + 1)), .string t423, .string t430, .slice Ao14 t424.length co14] (fun k_ => k_ ≠ gb429) (fun k_ => some k_ = (.slice Ao14 t424.length co14 : Value).ownBlock) rfl rfl ?aP (fun k_ hk_ => ((Kd.R_mono (ok' := fun k_ => ((fun k_ => k_ ≠ gb429)) k_ ∧ some k_ ≠ (.slice Ao11 x3_1.length co11 : Value).ownBlock) (Kd.R_types (Kd.R_apart' (HO426.out) (Kd.S_typed HO_3.out) (by decide)) BK429.out (by decide)) (fun k_ hk => ⟨hk.2, hk.1.2⟩))).1 k_ hk_.symm) ?aF ?aO (Below.refl _ _) ?aS ?aL ?_; (case aP => exact k32_mkM _ _ _ (⟨wrap64 ((x3_1.length : Int) + 1), t423, t430, t424⟩ : S32) (Kd.R_mono (Kd.R_tight rfl (Kd.R_mono (ok' := fun k_ => ((fun k_ => k_ ≠ gb429)) k_ ∧ some k_ ≠ (.slice Ao11 x3_1.length co11 : Value).ownBlock) (Kd.R_types (Kd.R_apart' (HO426.out) (Kd.S_typed HO_3.out) (by decide)) BK429.out (by decide)) (fun k_ hk => ⟨hk.2, hk.1.2⟩))) (fun _ h_ => h_))); (case aF => exact (fun k_ hk => Kd.freshB (g := gb429) (o := .cells #[.int .i64 (wrap64 ((x3_1.length : Int) + 1)), .string t423, .string t430, .slice Ao14 t424.length co14] 32 (0, 0)) (kb BK429.out) k_ hk)); (case aO => exact (by (with_reducible repeat (first | apply Kd.S_alloc | apply Kd.S_drewN | apply Kd.S_drew)); exact Kd.S_mono HO_3.out (fun k_ hk => ⟨hk.2, fun e_ => hk.1 e_⟩))); (case aS => exact (keep_size (w := w) (g := g) (row := none) (by repeat (first | (with_reducible first | exact HK.out | apply KeepBut.set_ | apply keep_drewN | apply keep_drew | apply keep_alloc | refine keep_far ?_ GW429.out _) | exact HK.out)))); (case aL => have := LMc10.out; omega); intro v432 w22 ho hb hg hat; rw [← Ny431.out] at ho; replace BK429 := mk0 (blk_grown (g := gb429) (o := .cells #[.int .i64 (wrap64 ((x3_1.length : Int) + 1)), .string t423, .string t430, .slice Ao14 t424.length co14] 32 (0, 0)) (kb BK429.out) hg (Kd.S_away HO_3.out (fun _ hk => hk.2))); replace HB := mk0 (below_weaken (by repeat (first | (with_reducible first | exact HB.out | apply below_alloc | apply pw_below_drewN | apply below_drew1 | refine below_set ?_ (IsS101.ge HI0.out) | refine below_set ?_ GE429.out) | exact HB.out)) HL.out hb); replace HI0 := mk0 (IsS101.grown (by repeat (first | (with_reducible first | exact HI0.out | apply IsS101.alloc | apply IsS101.drewN | apply IsS101.drew | apply IsS101.set_1 | apply IsS101.set_2 | refine IsS101.far ?_ NB0_429.out _) | exact HI0.out)) hg (IsS101.own_neS HI0.out HO_3.out (by decide))); replace HK := mk0 (KeepBut.trans (by repeat (first | (with_reducible first | exact HK.out | apply KeepBut.set_ | apply keep_drewN | apply keep_drew | apply keep_alloc | refine keep_far ?_ GW429.out _) | exact HK.out)) (KeepBut.of_grown hg g) (Kd.S_base2 HO_3.out)); have HO433 := mk0 (ho); clear HO_3 HO426; clear ho hb hg hat))
    go_roundg k1
    case measure => have := HK1.out; omega
    case rel => exact ⟨(y431), (wrap64 (x4_1 - 1)), (t427), (t428), sv, H', hk1, ⟨by (with_reducible repeat (first | apply Kd.S_alloc | apply Kd.S_drewN | apply Kd.S_drew)); exact Kd.S_mono HO433.out (fun _ hk => trivial)⟩, ⟨by repeat (first | (with_reducible first | exact HI0.out | apply IsS101.alloc | apply IsS101.drewN | apply IsS101.drew | apply IsS101.set_1 | apply IsS101.set_2 | refine IsS101.far ?_ NB0_429.out _) | exact HI0.out)⟩, ⟨by repeat (first | (with_reducible first | exact HK.out | apply KeepBut.set_ | apply keep_drewN | apply keep_drew | apply keep_alloc | refine keep_far ?_ GW429.out _) | exact HK.out)⟩, ⟨by repeat (first | (with_reducible first | exact HB.out | apply below_alloc | apply pw_below_drewN | apply below_drew1 | refine below_set ?_ (IsS101.ge HI0.out) | refine below_set ?_ GE429.out) | exact HB.out)⟩⟩
  · have c6b0 : decide (0 < x4_1) = false := decide_eq_false c6
    clear c6
    simp only [Option.some.injEq, Prod.mk.injEq] at H
    obtain ⟨rfl, rfl, rfl⟩ := H
    go_wp2
    go_ret
    exact ⟨_, sw, rS HO_3.out, by repeat (first | (with_reducible first | exact HI0.out | apply IsS101.alloc | apply IsS101.drewN | apply IsS101.drew | apply IsS101.set_1 | apply IsS101.set_2) | exact HI0.out), by repeat (first | (with_reducible first | exact HB.out | apply below_alloc | apply pw_below_drewN | apply below_drew1 | refine below_set ?_ (IsS101.ge HI0.out)) | exact HB.out), kk⟩
/-! ### spec_l1Once: function 70 -/
def spec_l1Once.f (s0_0 : List Int) (s0_1 : Int) (s0_2 : Int) (a1 : Int) : Option (Bool × Int × Int) := (spec_l1Below.f s0_0 s0_1 s0_2 a1).bind fun bt434 => (some ((bt434.1 == 0), bt434.2.1, bt434.2.2))
theorem spec_l1Once.calls (g : Nat) (s0_0 : List Int) (s0_1 : Int) (s0_2 : Int) (a1 : Int) (r1 : Bool) (r2 : Int) (r3 : Int) (w0 w : World) (hI : IsS101 w0 w g s0_0 s0_1 s0_2) (hB : Below w0.heap.size w0 w) (h : spec_l1Once.f s0_0 s0_1 s0_2 a1 = some (r1, r2, r3)) :
    Calls Try.prog 70 #[.pointer (some ⟨g, 0, none⟩), .int .i64 a1] w fun e w' => e = .returned (.bool r1) ∧ IsS101 w0 w' g s0_0 r2 r3 ∧ Below w0.heap.size w0 w' ∧ KeepBut w w' g none := by
 have HI0 := mk0 hI
 have HK := mk0 (KeepBut.refl w g none)
 have HL := mk0 hB.size
 clear hI
 have HW0 := mk0 hB.size
 have HB := mk0 hB
 clear hB
 have H : ((spec_l1Below.f s0_0 s0_1 s0_2 a1).bind fun bt434 => (some ((bt434.1 == 0), bt434.2.1, bt434.2.2))) = some (r1, r2, r3) := h
 clear h
 replace H := bd H; obtain ⟨⟨t434, t435, t436⟩, A3, H⟩ := H
 (try dsimp only at H)
 simp only [Option.some.injEq, Prod.mk.injEq] at H
 obtain ⟨rfl, rfl, rfl⟩ := H
 go_enter Try.func70, Try.ntmps70
 go_wp2_with (first | ((with_reducible refine gC 71 (some 7) rfl rfl ?_); refine gG (some 7) Try.func71 #[.pointer (some ⟨g, 0, none⟩), .int .i64 a1] ?_; refine (spec_l1Below.calls g s0_0 s0_1 s0_2 a1 t434 t435 t436 w0 _ ?side1 ?side2 A3.out).mono ?_; (case side1 => repeat (first | (with_reducible first | exact HI0.out | apply IsS101.alloc | apply IsS101.drewN | apply IsS101.drew | apply IsS101.set_1 | apply IsS101.set_2) | exact HI0.out)); (case side2 => repeat (first | (with_reducible first | exact HB.out | apply below_alloc | apply pw_below_drewN | apply below_drew1 | refine below_set ?_ (IsS101.ge HI0.out)) | exact HB.out)); rintro e w4 ⟨rfl, hi, hb, hk⟩; refine ⟨_, rfl, ?_⟩; replace HK := mk0 (KeepBut.trans kk hk (.inl rfl)); replace HB := mk0 (hb); replace HI0 := mk0 (hi); clear hb hk hi))
 go_ret
 exact ⟨sw, by repeat (first | (with_reducible first | exact HI0.out | apply IsS101.alloc | apply IsS101.drewN | apply IsS101.drew | apply IsS101.set_1 | apply IsS101.set_2) | exact HI0.out), by repeat (first | (with_reducible first | exact HB.out | apply below_alloc | apply pw_below_drewN | apply below_drew1 | refine below_set ?_ (IsS101.ge HI0.out)) | exact HB.out), kk⟩
/-! ### spec_l1Str: function 95 -/
def spec_l1Str.f (s0_0 : List Int) (s0_1 : Int) (s0_2 : Int) (l1 : List ByteArray) : Option (ByteArray × Int × Int) := (spec_l1Below.f s0_0 s0_1 s0_2 (l1.length : Int)).bind fun bt437 => (if 0 ≤ bt437.1 then (if bt437.1 < (l1.length : Int) then (some (rdOf ByteArray.empty l1 bt437.1, bt437.2.1, bt437.2.2)) else (none)) else (none))
theorem spec_l1Str.calls (g : Nat) (s0_0 : List Int) (s0_1 : Int) (s0_2 : Int) (A1 : Option Addr) (c1 : Nat) (l1 : List ByteArray) (r1 : ByteArray) (r2 : Int) (r3 : Int) (w0 w : World) (hI : IsS101 w0 w g s0_0 s0_1 s0_2) (hB : Below w0.heap.size w0 w) (hr1 : Kd.C Kd.string w A1 l1.length l1) (hc1 : l1.length ≤ c1) (hf1 : ∀ ad, A1 = some ad → 0 < l1.length → ad.block ≠ g) (h : spec_l1Str.f s0_0 s0_1 s0_2 l1 = some (r1, r2, r3)) :
    Calls Try.prog 95 #[.pointer (some ⟨g, 0, none⟩), .slice A1 l1.length c1] w fun e w' => e = .returned (.string r1) ∧ IsS101 w0 w' g s0_0 r2 r3 ∧ Below w0.heap.size w0 w' ∧ KeepBut w w' g none := by
 have HR1 := mk0 hr1
 have HC1 := mk0 hc1
 clear hr1 hc1
 have HI0 := mk0 hI
 have HK := mk0 (KeepBut.refl w g none)
 have HL := mk0 hB.size
 clear hI
 have HW0 := mk0 hB.size
 have HB := mk0 hB
 clear hB
 have H : ((spec_l1Below.f s0_0 s0_1 s0_2 (l1.length : Int)).bind fun bt437 => (if 0 ≤ bt437.1 then (if bt437.1 < (l1.length : Int) then (some (rdOf ByteArray.empty l1 bt437.1, bt437.2.1, bt437.2.2)) else (none)) else (none))) = some (r1, r2, r3) := h
 clear h
 replace H := bd H; obtain ⟨⟨t437, t438, t439⟩, A3, H⟩ := H
 (try dsimp only at H)
 replace H := gd H; obtain ⟨c4b0, H⟩ := H
 replace H := gd H; obtain ⟨c5b0, H⟩ := H
 simp only [Option.some.injEq, Prod.mk.injEq] at H
 obtain ⟨rfl, rfl, rfl⟩ := H
 go_enter Try.func95, Try.ntmps95
 go_wp2_with (first | ((with_reducible refine gC 71 (some 9) rfl rfl ?_); refine gG (some 9) Try.func71 #[.pointer (some ⟨g, 0, none⟩), .int .i64 (l1.length : Int)] ?_; refine (spec_l1Below.calls g s0_0 s0_1 s0_2 (l1.length : Int) t437 t438 t439 w0 _ ?side1 ?side2 A3.out).mono ?_; (case side1 => repeat (first | (with_reducible first | exact HI0.out | apply IsS101.alloc | apply IsS101.drewN | apply IsS101.drew | apply IsS101.set_1 | apply IsS101.set_2) | exact HI0.out)); (case side2 => repeat (first | (with_reducible first | exact HB.out | apply below_alloc | apply pw_below_drewN | apply below_drew1 | refine below_set ?_ (IsS101.ge HI0.out)) | exact HB.out)); rintro e w6 ⟨rfl, hi, hb, hk⟩; refine ⟨_, rfl, ?_⟩; replace HK := mk0 (KeepBut.trans kk hk (.inl rfl)); replace HB := mk0 (hb); replace HI0 := mk0 (hi); clear hb hk hi; have p440 : 0 ≤ (t437 : Int) := oa; have q440 : t437 < (l1.length : Int) := oa; obtain ⟨ad440, e440, hx440_0⟩ := Kd.at_string HR1.out t437 p440 q440; cases e440; replace hx440_0 := keep_cell HK.out hx440_0 (by first | (rw [add_block]; exact hf1 _ rfl (by omega)) | exact hf1 _ rfl (by omega) | exact hf1 ad440 rfl (by omega)); replace p440 := eq_true p440; replace q440 := eq_true q440))
 go_ret
 exact ⟨sw, by repeat (first | (with_reducible first | exact HI0.out | apply IsS101.alloc | apply IsS101.drewN | apply IsS101.drew | apply IsS101.set_1 | apply IsS101.set_2) | exact HI0.out), by repeat (first | (with_reducible first | exact HB.out | apply below_alloc | apply pw_below_drewN | apply below_drew1 | refine below_set ?_ (IsS101.ge HI0.out)) | exact HB.out), kk⟩
end Go.Proofs.Ytlekeiokdmnboaa.Pa
end
